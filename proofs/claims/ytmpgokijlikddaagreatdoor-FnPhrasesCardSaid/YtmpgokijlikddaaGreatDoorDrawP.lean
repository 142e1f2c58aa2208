/- The draw of a phrase: a list of at most 61 texts of at most 40 bytes. Condition: how the source lies. -/
import Derived.Test.YtmpgokijlikddaaGreatDoorDrawW
import Derived.Test.YtmpgokijlikddaaGreatDoorAre
namespace Go.Proofs.YtmpgokijlikddaaGreatDoor
open Go.RowKit
theorem Off.ownW {g : Nat} {w w' w2 : World} {row : Option Nat} (h : Off g w w') (hg : w'.grownBy w2 row) (hr : ∀ k, row = some k → w.heap.size ≤ k) : Off g w w2 :=
  ⟨hg.os.trans h.os, hg.tape.trans h.tape, hg.output.trans h.output, Nat.le_trans h.size hg.size, fun b hb hn => (hg.block b (Nat.lt_of_lt_of_le hb h.size) (fun e => by have := hr b e.symm; omega)).trans (h.block b hb hn)⟩
theorem Src.ownW {w w' w2 : World} {g n c : Nat} {a : Option Addr} {xs : List Int} {row : Option Nat} (h : Src w' g a n c xs) (h0 : Src w g a n c xs) (hg : w'.grownBy w2 row) (hr : ∀ k, row = some k → w.heap.size ≤ k) : Src w2 g a n c xs := by
  have hlt := h0.lt
  obtain ⟨⟨k, sd, hB, h1⟩, h2, h3⟩ := h
  refine ⟨⟨k, sd, hB.grown hg (fun e => by have := hr g e.symm; omega), h1⟩, fun hn => ?_, h3⟩
  obtain ⟨b1, o1, e1, hl1, hc1⟩ := h2 hn
  obtain ⟨b2, o2, e2, hl2, _⟩ := h0.2.1 hn
  rw [e1] at e2
  injection e2 with e2
  injection e2 with e3
  refine ⟨b1, o1, e1, Nat.lt_of_lt_of_le hl1 hg.size, fun j hj => ?_⟩
  rw [World.cell?_of_block (a := ⟨b1, o1 + j, none⟩) (hg.block b1 hl1 (fun e => by have := hr b1 e.symm; omega))]
  exact hc1 j hj
theorem Off.grownW {g : Nat} {w w' : World} (k : Off g w w') : w.grownBy w' (some g) := ⟨k.os, k.tape, k.output, k.size, fun b hb hn => k.block b hb (fun e => hn (by rw [e]))⟩
theorem OwnS.off {w w' : World} {b g : Nat} {v : Value} {l : List (List UInt8)} (h : OwnS w b v l) (k : Off g w w') (hg : g < b) : OwnS w' b v l :=
  h.kept k.grownW (by
    cases e : v.ownBlock with
    | none => exact .inl rfl
    | some j => refine .inr fun e' => ?_; injection e' with e'; have := (h.lt j e).1; omega)
theorem OwnS.lit0 (w : World) : OwnS (w.alloc (.cells #[] 9)) w.heap.size (.slice (some ⟨w.heap.size, 0, none⟩) 0 0) [] := by
  have := OwnS.lit w w.heap.size #[] [] rfl (Nat.le_refl _) (by unfold maxLen; simp)
  simpa using this
/-- how a drawn phrase lies -/
def PhrD (l : List (List UInt8)) : Prop := ∀ y ∈ l, y.length ≤ 40
theorem PhrD.get {l : List (List UInt8)} (h : PhrD l) (j : Nat) : (l.getD j []).length ≤ 9223372036854775807 := by
  by_cases hj : j < l.length
  · have := h l[j] (List.getElem_mem hj)
    rw [show l.getD j [] = l[j] by simp [List.getD, hj]]; omega
  · rw [List.getD_eq_getElem?_getD, List.getElem?_eq_none (by omega)]; simp
theorem PhrD.snoc {l : List (List UInt8)} (h : PhrD l) {x : List UInt8} (hx : x.length ≤ 40) : PhrD (l ++ [x]) := fun y hy => by
  rcases List.mem_append.1 hy with hy | hy
  · exact h y hy
  · obtain rfl := List.mem_singleton.1 hy; exact hx
set_option maxRecDepth 100000 in
set_option maxHeartbeats 2000000 in
theorem d_phrase (g n c : Nat) (a : Option Addr) (xs : List Int) (w : World) (hS : Src w g a n c xs) : Calls Tryz.prog 100 #[.pointer (some ⟨g, 0, none⟩)] w fun e w' =>
    (∃ v ys, e = .returned v ∧ OwnS w' w.heap.size v ys ∧ ys.length ≤ 61 ∧ PhrD ys) ∧ Src w' g a n c xs ∧ Off g w w' := by
  have hg := hS.lt
  have H0 := Lib.hid hS
  go_enter Tryz.func100, Tryz.ntmps100
  go_wp2_with fail
  refine (d_next _ _ _ _ _ _ _ (hS.below (below_alloc w _))).mono ?_
  rintro e w1 ⟨⟨r0, rfl, -, hr⟩, hS1, hO⟩
  obtain ⟨r0a, r0b⟩ := hr (by omega)
  obtain ⟨rn, rfl⟩ : ∃ k : Nat, r0 = k := ⟨r0.toNat, by omega⟩
  have O1 := ((Off.refl g w).alloc _).trans hO
  have V1 := (OwnS.lit0 w).off hO hg
  clear hO hr hS
  go_wp2_with fail
  go_loopw [3, 4] (fun o q wr => ∃ (k : Nat) (ys : List (List UInt8)), q = .int .i64 k ∧ k ≤ 9 ∧ ys.length + k ≤ 9 ∧ PhrD ys ∧ OwnS wr w.heap.size o ys ∧ Src wr g a n c xs ∧ Off g w wr) (fun _ q _ => (intOf q).toNat)
  case atStart => exact ⟨rn, [], rfl, by omega, by simp; omega, fun y hy => absurd hy List.not_mem_nil, V1, hS1, O1⟩
  case round =>
    clear V1 hS1 O1
    obtain ⟨k, ys, rfl, hk5, hlen, hys, V, hS2, O2⟩ := hrel
    by_cases hk : 0 < k
    · have hk' : (0 : Int) < k := by omega
      have hgs := hS2.lt
      go_wp2_with fail
      refine (d_word _ _ _ _ _ _ hS2).mono ?_
      rintro e w2 ⟨⟨x, rfl, hxl⟩, hS3, hO⟩
      have V3 := V.off hO hg
      have O3 := O2.trans hO
      clear V O2 hO hS2
      have cx := fun W => s_IsWord ⟨x.toArray⟩ W (show x.length ≤ 9223372036854775807 by omega)
      go_wp2_with fail
      cases hw : wordB x with
      | true =>
        refine (toB (cx _) hw).mono ?_
        rintro e w3 ⟨rfl, rfl⟩
        have hz3 := O3.size
        clear cx hw
        go_wp2_with (at_builtin; refine Hid.out ?_)
        refine Lib.hid ?_
        refine wpList_appS rfl _ _ rfl _ w.heap.size _ ys x _ rfl ?_ V3 ?_ (by omega) hz3 ?_
        · rfl
        · rfl
        intro v2 w9 hown2 hgr2
        go_wp2_with fail
        go_roundw
        case rel => exact ⟨k - 1, ys ++ [x], by go_num, by omega, by simp; omega, hys.snoc hxl, hown2, hS3.ownW H0.out hgr2 (fun k hk => (V3.lt k hk).1), O3.ownW hgr2 (fun k hk => (V3.lt k hk).1)⟩
        case measure => simp [intOf]; omega
      | false =>
        refine (toB (cx _) hw).mono ?_
        rintro e w3 ⟨rfl, rfl⟩
        clear cx hw
        go_wp2_with fail
        refine (d_next _ _ _ _ _ _ _ hS3).mono ?_
        rintro e w4 ⟨⟨p, rfl, -, hp⟩, hS4, hO⟩
        obtain ⟨p0, p1⟩ := hp (by omega)
        have V4 := V3.off hO hg
        have O4 := O3.trans hO
        have hz4 := O4.size
        clear V3 O3 hO hS3 hp
        by_cases hp0 : p = 0
        · subst hp0
          go_wp2_with (at_builtin; refine Hid.out ?_)
          refine Lib.hid ?_
          refine wpList_appS rfl _ _ rfl _ w.heap.size _ ys x _ rfl ?_ V4 ?_ (by omega) hz4 ?_
          · rfl
          · rfl
          intro v2 w9 hown2 hgr2
          go_wp2_with fail
          go_roundw
          case rel => exact ⟨k - 1, ys ++ [x], by go_num, by omega, by simp; omega, hys.snoc hxl, hown2, hS4.ownW H0.out hgr2 (fun k hk => (V4.lt k hk).1), O4.ownW hgr2 (fun k hk => (V4.lt k hk).1)⟩
          case measure => simp [intOf]; omega
        · go_wp2_with fail
          go_roundw
          case rel => exact ⟨k - 1, ys, by go_num, by omega, by omega, hys, V4, hS4, O4⟩
          case measure => simp [intOf]; omega
    · obtain rfl : k = 0 := by omega
      go_wp2_with fail
      refine (d_next _ _ _ _ _ _ _ hS2).mono ?_
      rintro e w2 ⟨⟨p, rfl, -, hp⟩, hS3, hO⟩
      obtain ⟨p0, p1⟩ := hp (by omega)
      have V3 := V.off hO hg
      have O3 := O2.trans hO
      clear V O2 hO hS2 hp
      by_cases hp0 : p = 0
      · subst hp0
        go_wp2_with fail
        refine (d_next _ _ _ _ _ _ _ (hS3.below (below_alloc w2 _))).mono ?_
        rintro e w4 ⟨⟨m, rfl, -, hm⟩, hS4, hO⟩
        obtain ⟨m0, m1⟩ := hm (by omega)
        obtain ⟨mn, rfl⟩ : ∃ k : Nat, m = k := ⟨m.toNat, by omega⟩
        have O4 := (O3.alloc _).trans hO
        have hz3 := O3.size
        have V4 := ((OwnS.lit0 w2).off hO hS3.lt).mono hz3
        clear hO hS3 O3 hm V3
        go_wp2_with fail
        go_loopw [3, 6] (fun o q wr => ∃ (k : Nat) (ys : List (List UInt8)), q = .int .i64 k ∧ k ≤ 61 ∧ ys.length + k ≤ 61 ∧ PhrD ys ∧ OwnS wr w.heap.size o ys ∧ Src wr g a n c xs ∧ Off g w wr) (fun _ q _ => (intOf q).toNat)
        case atStart => exact ⟨60 + mn, [], by go_num, by omega, by simp; omega, fun y hy => absurd hy List.not_mem_nil, V4, hS4, O4⟩
        case round =>
          clear V4 hS4 O4
          obtain ⟨k, zs, rfl, hk6, hlen6, hzs, V5, hS5, O5⟩ := hrel
          have hz5 := O5.size
          have hg5 := hS5.lt
          by_cases hk : 0 < k
          · have hk' : (0 : Int) < k := by omega
            go_wp2_with (at_builtin; refine Hid.out ?_)
            refine Lib.hid ?_
            refine wpList_appS rfl _ _ rfl _ w.heap.size _ zs [97] _ rfl ?_ V5 ?_ (by omega) hz5 ?_
            · rfl
            · rfl
            intro v2 w9 hown2 hgr2
            go_wp2_with fail
            go_roundw
            case rel => exact ⟨k - 1, zs ++ [[97]], by go_num, by omega, by simp; omega, hzs.snoc (by decide), hown2, hS5.ownW H0.out hgr2 (fun k hk => (V5.lt k hk).1), O5.ownW hgr2 (fun k hk => (V5.lt k hk).1)⟩
            case measure => simp [intOf]; omega
          · obtain rfl : k = 0 := by omega
            obtain ⟨-, A, cc, rfl, -⟩ := V5.opened
            go_wp2_with fail
            go_ret
            exact ⟨⟨_, zs, rfl, V5, by omega, hzs⟩, hS5, O5⟩
      · obtain ⟨-, A, cc, rfl, -⟩ := V3.opened
        go_wp2_with fail
        go_ret
        exact ⟨⟨_, ys, rfl, V3, by omega, hys⟩, hS3, O3⟩
end Go.Proofs.YtmpgokijlikddaaGreatDoor
