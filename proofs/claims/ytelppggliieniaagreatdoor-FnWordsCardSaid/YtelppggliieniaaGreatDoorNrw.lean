/- NearestWord: the program's and the reference's functions return what the plain function says. Conditions: lengths that a machine can hold; how the list lies. -/
import Derived.Test.YtelppggliieniaaGreatDoorNml
import Derived.Test.YtelppggliieniaaGreatDoorPhr
import Derived.Test.YtelppggliieniaaGreatDoorDist
import Derived.Test.YtelppggliieniaaGreatDoorShP
namespace Go.Proofs.YtelppggliieniaaGreatDoor
set_option linter.unusedSimpArgs false
open Go.RowKit
def neF (s : List UInt8) (xs : List (List UInt8)) (most : Int) : Int × Int × Int :=
  if wordB s && phB xs then (if inB most 0 20 then (if (nrK s xs most xs.length).1 < 0 then (0, 0, 4) else ((nrK s xs most xs.length).1, (nrK s xs most xs.length).2, 0)) else (0, 0, 2)) else (0, 0, 1)
theorem nm40 {x : List UInt8} (h : wordB x = true) : (nmL x).length ≤ 40 := by
  have h1 := nmL_len x
  have h2 := word_len h
  omega
theorem ph_word {xs : List (List UInt8)} (h : phB xs = true) (k : Nat) (hk : k < xs.length) : wordB (xs.getD k []) = true := by
  unfold phB at h
  rw [Bool.and_eq_true] at h
  have := List.all_eq_true.1 h.1 xs[k] (List.getElem_mem hk)
  rw [show xs.getD k [] = xs[k] by simp [List.getD, hk]]
  exact this
theorem s_dstL (a b : List UInt8) (w : World) (ha : a.length ≤ 40) (hb : b.length ≤ 40) : Calls Tryz.prog 120 #[.string ⟨a.toArray⟩, .string ⟨b.toArray⟩] w fun e w' => e = .returned (.int .i64 (dist a b)) ∧ Below w.heap.size w w' := s_dist ⟨a.toArray⟩ ⟨b.toArray⟩ w ha hb
set_option maxRecDepth 100000 in
set_option maxHeartbeats 1000000 in
theorem s_NearestWord {b : Nat} {v : Value} {xs : List (List UInt8)} (s : List UInt8) (most : Int) (w : World) (h : OwnS w b v xs) (hs : s.length ≤ 9223372036854775807) (hx : ∀ j, (xs.getD j []).length ≤ 9223372036854775807) :
    Calls Tryz.prog 37 #[.string ⟨s.toArray⟩, v, .int .i64 most] w fun e w' => e = .returned (.tuple #[.int .i64 (neF s xs most).1, .int .i64 (neF s xs most).2.1, .int .i64 (neF s xs most).2.2]) ∧ Below w.heap.size w w' := by
  have cx := fun W => s_IsWord ⟨s.toArray⟩ W hs
  have cp := s_phrase w h hx
  obtain ⟨hl0, A, c, rfl, p⟩ := h.opened
  cases h1 : wordB s with
  | false =>
    have hF : neF s xs most = (0, 0, 1) := by unfold neF; rw [h1]; rfl
    rw [hF]
    have CX := Lib.hid (fun W => toB (cx W) h1)
    clear cx cp p h
    go_enter Tryz.func37, Tryz.ntmps37
    go_wp2_with fail
    refine (CX.out _).mono ?_
    rintro e w1 ⟨rfl, rfl⟩
    go_wp2_with fail
    refine bodyPost_ret (v := .tuple #[.int .i64 0, .int .i64 0, .int .i64 1]) (by simp [results, Tryz.results37, go_sem]) rfl ⟨rfl, Below.refl _ _⟩
  | true =>
    have CX := Lib.hid (fun W => toB (cx W) h1)
    cases h2 : phB xs with
    | false =>
      have hF : neF s xs most = (0, 0, 1) := by unfold neF; rw [h1, h2]; rfl
      rw [hF]
      have CP := Lib.hid (toB cp h2)
      clear cx cp p h
      go_enter Tryz.func37, Tryz.ntmps37
      go_wp2_with fail
      refine (CX.out _).mono ?_
      rintro e w1 ⟨rfl, rfl⟩
      go_wp2_with fail
      refine (CP.out).mono ?_
      rintro e w1 ⟨rfl, rfl⟩
      go_wp2_with fail
      refine bodyPost_ret (v := .tuple #[.int .i64 0, .int .i64 0, .int .i64 1]) (by simp [results, Tryz.results37, go_sem]) rfl ⟨rfl, Below.refl _ _⟩
    | true =>
      have CP := Lib.hid (toB cp h2)
      have CI := Lib.hid (fun W => s_in most 0 20 W)
      cases h3 : inB most 0 20 with
      | false =>
        have hF : neF s xs most = (0, 0, 2) := by unfold neF; rw [h1, h2, h3]; rfl
        rw [hF]
        rw [h3] at CI
        clear cx cp p h
        go_enter Tryz.func37, Tryz.ntmps37
        go_wp2_with fail
        refine (CX.out _).mono ?_
        rintro e w1 ⟨rfl, rfl⟩
        go_wp2_with fail
        refine (CP.out).mono ?_
        rintro e w1 ⟨rfl, rfl⟩
        go_wp2_with fail
        refine (CI.out _).mono ?_
        rintro e w1 ⟨rfl, rfl⟩
        go_wp2_with fail
        refine bodyPost_ret (v := .tuple #[.int .i64 0, .int .i64 0, .int .i64 2]) (by simp [results, Tryz.results37, go_sem]) rfl ⟨rfl, Below.refl _ _⟩
      | true =>
        have hF : neF s xs most = if (nrK s xs most xs.length).1 < 0 then (0, 0, 4) else ((nrK s xs most xs.length).1, (nrK s xs most xs.length).2, 0) := by unfold neF; rw [h1, h2, h3]; rfl
        rw [hF]
        rw [h3] at CI
        obtain ⟨m0, m1⟩ := inB_iff.1 h3
        have CN := Lib.hid (fun W => s_normal s W (word_len h1) (word_pos h1))
        have CM := Lib.hid (fun k (hk : k < xs.length) W => s_normal (xs.getD k []) W (word_len (ph_word h2 k hk)) (word_pos (ph_word h2 k hk)))
        have CD := Lib.hid (fun k (hk : k < xs.length) W => s_dstL (nmL s) (nmL (xs.getD k [])) W (nm40 h1) (nm40 (ph_word h2 k hk)))
        have BD := Lib.hid (fun k => nrK_bd (s := s) (xs := xs) (most := most) m0 k)
        have ST := Lib.hid (fun k => nrK_T (s := s) (xs := xs) (most := most) (k := k))
        have SF := Lib.hid (fun k (h : (nrK s xs most k).2 ≤ dist (nmL s) (nmL (xs.getD k []))) => nrK_F (s := s) (xs := xs) (most := most) (k := k) (by omega))
        have DB := Lib.hid (fun k => dist_bd (nmL s) (nmL (xs.getD k [])))
        have h60 := (ph_len h2).1
        have N0 : nrK s xs most 0 = (-1, most + 1) := rfl
        have P := Lib.hid p
        clear cx cp p h h1 h2 h3 hF hl0
        obtain ⟨n, hn⟩ : ∃ n, xs.length = n := ⟨_, rfl⟩
        rw [hn] at P CM CD h60 ⊢
        rw [hn] at CP
        clear hn
        obtain ⟨f, hf⟩ : ∃ f : Nat → Int × Int, nrK s xs most = f := ⟨_, rfl⟩
        rw [hf] at BD ST SF N0 ⊢
        clear hf
        have NN := Lib.hid N0
        have hFN : ∃ G : Int × Int × Int, (if (f n).1 < 0 then (0, 0, 4) else ((f n).1, (f n).2, 0)) = G := ⟨_, rfl⟩
        obtain ⟨G, hG⟩ := hFN
        rw [hG]
        have HG := Lib.hid hG
        clear hG
        clear N0
        go_enter Tryz.func37, Tryz.ntmps37
        go_wp2_with fail
        refine (CX.out _).mono ?_
        rintro e w1 ⟨rfl, rfl⟩
        go_wp2_with fail
        refine (CP.out).mono ?_
        rintro e w1 ⟨rfl, rfl⟩
        go_wp2_with fail
        refine (CI.out _).mono ?_
        rintro e w1 ⟨rfl, rfl⟩
        clear CX CP CI
        go_wp2_with fail
        go_loopw [9, 10, 11] (fun q l i wr => ∃ k : Nat, k ≤ n ∧ i = .int .i64 k ∧ q = .int .i64 (f k).1 ∧ l = .int .i64 (f k).2 ∧ Below w.heap.size w wr) (fun _ _ i _ => n - (intOf i).toNat)
        case atStart => exact ⟨0, by omega, rfl, by rw [NN.out], by rw [NN.out], Below.refl _ _⟩
        case round =>
          obtain ⟨k, hk, rfl, rfl, rfl, hB⟩ := hrel
          obtain ⟨⟨d1, d2⟩, ⟨d3, d4⟩, -⟩ := BD.out k
          by_cases hlt : k < n
          · obtain ⟨g1, rfl, -, hg1, hc1, -⟩ := P.out (by omega)
            have c1 := (hB.cell (p := ⟨g1, k, none⟩) hg1).trans (hc1 k hlt)
            have hg2 := Nat.lt_of_lt_of_le hg1 hB.size
            have cm := CM.out k hlt
            have cd := CD.out k hlt
            have st := ST.out k
            have sf := SF.out k
            obtain ⟨D0, D1⟩ := DB.out k
            obtain ⟨y, hy⟩ : ∃ y, xs.getD k [] = y := ⟨_, rfl⟩
            rw [hy] at c1 cm cd st sf D0
            obtain ⟨d, hd⟩ : ∃ d, dist (nmL s) (nmL y) = d := ⟨_, rfl⟩
            rw [hd] at cd st sf D0
            clear hc1 hy hd D1
            have CM' := Lib.hid cm
            have CD' := Lib.hid cd
            clear cm cd
            obtain ⟨p, hp⟩ : ∃ p, f k = p := ⟨_, rfl⟩
            rw [hp] at d1 d2 d3 d4 st sf ⊢
            clear hp
            obtain ⟨q, l⟩ := p
            dsimp only at d1 d2 d3 d4 st sf ⊢
            by_cases hdl : d < l
            · have HS := Lib.hid (st hdl)
              clear st sf
              go_wp2_with fail
              replace hB := hB.drew
              replace c1 : wr.drew.cell? ⟨g1, k, none⟩ = some (.string ⟨y.toArray⟩) := c1
              replace hg2 : g1 < wr.drew.heap.size := hg2
              refine wp_region_any (by kernel_rfl) ?_
              change wpAny _ _ _ _ _ _ _ (World.drew _)
              refine wpAny_take (i := 0) (v := _) rfl (by kernel_rfl) (by kernel_rfl) (by kernel_rfl) (fun _ _ _ h => h) (Or.inl ⟨by kernel_rfl, fun W => by first | rfl | go_simp⟩) ?_
              simp only [Act.put, List.getElem_toArray, List.getElem_cons_succ, List.getElem_cons_zero, List.setIfInBounds_toArray, List.set_cons_succ, List.set_cons_zero]
              refine wpAny_take (i := 2) (v := _) rfl (by kernel_rfl) (by kernel_rfl) (by kernel_rfl) (fun _ _ _ h => h) (Or.inl ⟨by kernel_rfl, fun W => by first | rfl | go_simp⟩) ?_
              simp only [Act.put, List.getElem_toArray, List.getElem_cons_succ, List.getElem_cons_zero, List.setIfInBounds_toArray, List.set_cons_succ, List.set_cons_zero]
              refine wpAny_take (i := 3) (v := _) rfl (by kernel_rfl) (by kernel_rfl) (by kernel_rfl) (fun _ _ _ h => h) (Or.inl ⟨by kernel_rfl, fun W => by first | rfl | go_simp⟩) ?_
              simp only [Act.put, List.getElem_toArray, List.getElem_cons_succ, List.getElem_cons_zero, List.setIfInBounds_toArray, List.set_cons_succ, List.set_cons_zero]
              refine wpAny_take (i := 4) (v := .pointer (some ⟨g1, k, none⟩)) rfl (by kernel_rfl) (by kernel_rfl) (by kernel_rfl) (fun _ _ _ h => h) (Or.inl ⟨by kernel_rfl, fun W => by first | rfl | go_simp⟩) ?_
              simp only [Act.put, List.getElem_toArray, List.getElem_cons_succ, List.getElem_cons_zero, List.setIfInBounds_toArray, List.set_cons_succ, List.set_cons_zero]
              refine wpAny_ready (rs := [1, 5]) (by kernel_rfl) (by simp) ?_
              refine AllReady.cons rfl (fun K hK => ?_) (AllReady.cons rfl (fun K hK => ?_) AllReady.nil)
              · go_simp
                go_at_call 113
                refine (CN.out _).mono ?_
                rintro e w3 ⟨rfl, hb3⟩
                replace c1 := (hb3.cell (p := ⟨g1, k, none⟩) hg2).trans c1
                replace hB := hB.trans (hb3.mono hB.size)
                replace hg2 := Nat.lt_of_lt_of_le hg2 hb3.size
                clear hb3
                refine hK _ _ ?_
                clear hK K
                refine wpAny_ready (rs := [5]) (by kernel_rfl) (by simp) ?_
                refine AllReady.cons rfl (fun K hK => ?_) AllReady.nil
                go_simp
                refine hK _ _ ?_
                clear hK K
                refine wpAny_ready (rs := [6]) (by kernel_rfl) (by simp) ?_
                refine AllReady.cons rfl (fun K hK => ?_) AllReady.nil
                go_simp
                go_at_call 113
                refine (CM'.out _).mono ?_
                rintro e w3 ⟨rfl, hb3⟩
                replace c1 := (hb3.cell (p := ⟨g1, k, none⟩) hg2).trans c1
                replace hB := hB.trans (hb3.mono hB.size)
                replace hg2 := Nat.lt_of_lt_of_le hg2 hb3.size
                clear hb3
                refine hK _ _ ?_
                clear hK K
                refine wpAny_ready (rs := [7]) (by kernel_rfl) (by simp) ?_
                refine AllReady.cons rfl (fun K hK => ?_) AllReady.nil
                go_simp
                go_at_call 120
                refine (CD'.out _).mono ?_
                rintro e w3 ⟨rfl, hb3⟩
                replace c1 := (hb3.cell (p := ⟨g1, k, none⟩) hg2).trans c1
                replace hB := hB.trans (hb3.mono hB.size)
                replace hg2 := Nat.lt_of_lt_of_le hg2 hb3.size
                clear hb3
                refine hK _ _ ?_
                clear hK K
                refine wpAny_take (i := 8) (v := .int .i64 d) rfl (by kernel_rfl) (by kernel_rfl) (by kernel_rfl) (fun _ _ _ h => h) (Or.inl ⟨by kernel_rfl, fun W => by first | rfl | go_simp⟩) ?_
                simp only [Act.put, List.getElem_toArray, List.getElem_cons_succ, List.getElem_cons_zero, List.setIfInBounds_toArray, List.set_cons_succ, List.set_cons_zero]
                refine wpAny_done (by kernel_rfl) ?_ _
                try simp only [List.getElem_toArray, List.getElem_cons_succ, List.getElem_cons_zero, List.setIfInBounds_toArray, List.set_cons_succ, List.set_cons_zero]
                go_wp2_with fail
                go_roundw
                case rel => exact ⟨k + 1, by omega, by go_num, by rw [HS.out], by rw [HS.out], hB⟩
                case measure => simp [intOf]; omega
              · go_simp
                refine hK _ _ ?_
                clear hK K
                refine wpAny_ready (rs := [1]) (by kernel_rfl) (by simp) ?_
                refine AllReady.cons rfl (fun K hK => ?_) AllReady.nil
                go_simp
                go_at_call 113
                refine (CN.out _).mono ?_
                rintro e w3 ⟨rfl, hb3⟩
                replace c1 := (hb3.cell (p := ⟨g1, k, none⟩) hg2).trans c1
                replace hB := hB.trans (hb3.mono hB.size)
                replace hg2 := Nat.lt_of_lt_of_le hg2 hb3.size
                clear hb3
                refine hK _ _ ?_
                clear hK K
                refine wpAny_ready (rs := [6]) (by kernel_rfl) (by simp) ?_
                refine AllReady.cons rfl (fun K hK => ?_) AllReady.nil
                go_simp
                go_at_call 113
                refine (CM'.out _).mono ?_
                rintro e w3 ⟨rfl, hb3⟩
                replace c1 := (hb3.cell (p := ⟨g1, k, none⟩) hg2).trans c1
                replace hB := hB.trans (hb3.mono hB.size)
                replace hg2 := Nat.lt_of_lt_of_le hg2 hb3.size
                clear hb3
                refine hK _ _ ?_
                clear hK K
                refine wpAny_ready (rs := [7]) (by kernel_rfl) (by simp) ?_
                refine AllReady.cons rfl (fun K hK => ?_) AllReady.nil
                go_simp
                go_at_call 120
                refine (CD'.out _).mono ?_
                rintro e w3 ⟨rfl, hb3⟩
                replace c1 := (hb3.cell (p := ⟨g1, k, none⟩) hg2).trans c1
                replace hB := hB.trans (hb3.mono hB.size)
                replace hg2 := Nat.lt_of_lt_of_le hg2 hb3.size
                clear hb3
                refine hK _ _ ?_
                clear hK K
                refine wpAny_take (i := 8) (v := .int .i64 d) rfl (by kernel_rfl) (by kernel_rfl) (by kernel_rfl) (fun _ _ _ h => h) (Or.inl ⟨by kernel_rfl, fun W => by first | rfl | go_simp⟩) ?_
                simp only [Act.put, List.getElem_toArray, List.getElem_cons_succ, List.getElem_cons_zero, List.setIfInBounds_toArray, List.set_cons_succ, List.set_cons_zero]
                refine wpAny_done (by kernel_rfl) ?_ _
                try simp only [List.getElem_toArray, List.getElem_cons_succ, List.getElem_cons_zero, List.setIfInBounds_toArray, List.set_cons_succ, List.set_cons_zero]
                go_wp2_with fail
                go_roundw
                case rel => exact ⟨k + 1, by omega, by go_num, by rw [HS.out], by rw [HS.out], hB⟩
                case measure => simp [intOf]; omega
            · replace hdl : l ≤ d := by omega
              have HS := Lib.hid (sf hdl)
              clear st sf
              go_wp2_with fail
              replace hB := hB.drew
              replace c1 : wr.drew.cell? ⟨g1, k, none⟩ = some (.string ⟨y.toArray⟩) := c1
              replace hg2 : g1 < wr.drew.heap.size := hg2
              refine wp_region_any (by kernel_rfl) ?_
              change wpAny _ _ _ _ _ _ _ (World.drew _)
              refine wpAny_take (i := 0) (v := _) rfl (by kernel_rfl) (by kernel_rfl) (by kernel_rfl) (fun _ _ _ h => h) (Or.inl ⟨by kernel_rfl, fun W => by first | rfl | go_simp⟩) ?_
              simp only [Act.put, List.getElem_toArray, List.getElem_cons_succ, List.getElem_cons_zero, List.setIfInBounds_toArray, List.set_cons_succ, List.set_cons_zero]
              refine wpAny_take (i := 2) (v := _) rfl (by kernel_rfl) (by kernel_rfl) (by kernel_rfl) (fun _ _ _ h => h) (Or.inl ⟨by kernel_rfl, fun W => by first | rfl | go_simp⟩) ?_
              simp only [Act.put, List.getElem_toArray, List.getElem_cons_succ, List.getElem_cons_zero, List.setIfInBounds_toArray, List.set_cons_succ, List.set_cons_zero]
              refine wpAny_take (i := 3) (v := _) rfl (by kernel_rfl) (by kernel_rfl) (by kernel_rfl) (fun _ _ _ h => h) (Or.inl ⟨by kernel_rfl, fun W => by first | rfl | go_simp⟩) ?_
              simp only [Act.put, List.getElem_toArray, List.getElem_cons_succ, List.getElem_cons_zero, List.setIfInBounds_toArray, List.set_cons_succ, List.set_cons_zero]
              refine wpAny_take (i := 4) (v := .pointer (some ⟨g1, k, none⟩)) rfl (by kernel_rfl) (by kernel_rfl) (by kernel_rfl) (fun _ _ _ h => h) (Or.inl ⟨by kernel_rfl, fun W => by first | rfl | go_simp⟩) ?_
              simp only [Act.put, List.getElem_toArray, List.getElem_cons_succ, List.getElem_cons_zero, List.setIfInBounds_toArray, List.set_cons_succ, List.set_cons_zero]
              refine wpAny_ready (rs := [1, 5]) (by kernel_rfl) (by simp) ?_
              refine AllReady.cons rfl (fun K hK => ?_) (AllReady.cons rfl (fun K hK => ?_) AllReady.nil)
              · go_simp
                go_at_call 113
                refine (CN.out _).mono ?_
                rintro e w3 ⟨rfl, hb3⟩
                replace c1 := (hb3.cell (p := ⟨g1, k, none⟩) hg2).trans c1
                replace hB := hB.trans (hb3.mono hB.size)
                replace hg2 := Nat.lt_of_lt_of_le hg2 hb3.size
                clear hb3
                refine hK _ _ ?_
                clear hK K
                refine wpAny_ready (rs := [5]) (by kernel_rfl) (by simp) ?_
                refine AllReady.cons rfl (fun K hK => ?_) AllReady.nil
                go_simp
                refine hK _ _ ?_
                clear hK K
                refine wpAny_ready (rs := [6]) (by kernel_rfl) (by simp) ?_
                refine AllReady.cons rfl (fun K hK => ?_) AllReady.nil
                go_simp
                go_at_call 113
                refine (CM'.out _).mono ?_
                rintro e w3 ⟨rfl, hb3⟩
                replace c1 := (hb3.cell (p := ⟨g1, k, none⟩) hg2).trans c1
                replace hB := hB.trans (hb3.mono hB.size)
                replace hg2 := Nat.lt_of_lt_of_le hg2 hb3.size
                clear hb3
                refine hK _ _ ?_
                clear hK K
                refine wpAny_ready (rs := [7]) (by kernel_rfl) (by simp) ?_
                refine AllReady.cons rfl (fun K hK => ?_) AllReady.nil
                go_simp
                go_at_call 120
                refine (CD'.out _).mono ?_
                rintro e w3 ⟨rfl, hb3⟩
                replace c1 := (hb3.cell (p := ⟨g1, k, none⟩) hg2).trans c1
                replace hB := hB.trans (hb3.mono hB.size)
                replace hg2 := Nat.lt_of_lt_of_le hg2 hb3.size
                clear hb3
                refine hK _ _ ?_
                clear hK K
                refine wpAny_take (i := 8) (v := .int .i64 d) rfl (by kernel_rfl) (by kernel_rfl) (by kernel_rfl) (fun _ _ _ h => h) (Or.inl ⟨by kernel_rfl, fun W => by first | rfl | go_simp⟩) ?_
                simp only [Act.put, List.getElem_toArray, List.getElem_cons_succ, List.getElem_cons_zero, List.setIfInBounds_toArray, List.set_cons_succ, List.set_cons_zero]
                refine wpAny_done (by kernel_rfl) ?_ _
                try simp only [List.getElem_toArray, List.getElem_cons_succ, List.getElem_cons_zero, List.setIfInBounds_toArray, List.set_cons_succ, List.set_cons_zero]
                go_wp2_with fail
                go_roundw
                case rel => exact ⟨k + 1, by omega, by go_num, by rw [HS.out], by rw [HS.out], hB⟩
                case measure => simp [intOf]; omega
              · go_simp
                refine hK _ _ ?_
                clear hK K
                refine wpAny_ready (rs := [1]) (by kernel_rfl) (by simp) ?_
                refine AllReady.cons rfl (fun K hK => ?_) AllReady.nil
                go_simp
                go_at_call 113
                refine (CN.out _).mono ?_
                rintro e w3 ⟨rfl, hb3⟩
                replace c1 := (hb3.cell (p := ⟨g1, k, none⟩) hg2).trans c1
                replace hB := hB.trans (hb3.mono hB.size)
                replace hg2 := Nat.lt_of_lt_of_le hg2 hb3.size
                clear hb3
                refine hK _ _ ?_
                clear hK K
                refine wpAny_ready (rs := [6]) (by kernel_rfl) (by simp) ?_
                refine AllReady.cons rfl (fun K hK => ?_) AllReady.nil
                go_simp
                go_at_call 113
                refine (CM'.out _).mono ?_
                rintro e w3 ⟨rfl, hb3⟩
                replace c1 := (hb3.cell (p := ⟨g1, k, none⟩) hg2).trans c1
                replace hB := hB.trans (hb3.mono hB.size)
                replace hg2 := Nat.lt_of_lt_of_le hg2 hb3.size
                clear hb3
                refine hK _ _ ?_
                clear hK K
                refine wpAny_ready (rs := [7]) (by kernel_rfl) (by simp) ?_
                refine AllReady.cons rfl (fun K hK => ?_) AllReady.nil
                go_simp
                go_at_call 120
                refine (CD'.out _).mono ?_
                rintro e w3 ⟨rfl, hb3⟩
                replace c1 := (hb3.cell (p := ⟨g1, k, none⟩) hg2).trans c1
                replace hB := hB.trans (hb3.mono hB.size)
                replace hg2 := Nat.lt_of_lt_of_le hg2 hb3.size
                clear hb3
                refine hK _ _ ?_
                clear hK K
                refine wpAny_take (i := 8) (v := .int .i64 d) rfl (by kernel_rfl) (by kernel_rfl) (by kernel_rfl) (fun _ _ _ h => h) (Or.inl ⟨by kernel_rfl, fun W => by first | rfl | go_simp⟩) ?_
                simp only [Act.put, List.getElem_toArray, List.getElem_cons_succ, List.getElem_cons_zero, List.setIfInBounds_toArray, List.set_cons_succ, List.set_cons_zero]
                refine wpAny_done (by kernel_rfl) ?_ _
                try simp only [List.getElem_toArray, List.getElem_cons_succ, List.getElem_cons_zero, List.setIfInBounds_toArray, List.set_cons_succ, List.set_cons_zero]
                go_wp2_with fail
                go_roundw
                case rel => exact ⟨k + 1, by omega, by go_num, by rw [HS.out], by rw [HS.out], hB⟩
                case measure => simp [intOf]; omega
          · obtain rfl : k = n := by omega
            have hG := HG.out
            clear CN CM CD BD ST SF DB P NN HG
            obtain ⟨p, hp⟩ : ∃ p, f k = p := ⟨_, rfl⟩
            rw [hp] at d1 d2 d3 d4 hG ⊢
            clear hp
            obtain ⟨q, l⟩ := p
            dsimp only at d1 d2 d3 d4 hG ⊢
            by_cases hq : q < 0
            · rw [if_pos hq] at hG
              subst hG
              go_wp2_with fail
              refine bodyPost_ret (v := .tuple #[.int .i64 0, .int .i64 0, .int .i64 4]) (by simp [results, Tryz.results37, go_sem]) rfl ⟨rfl, hB⟩
            · rw [if_neg hq] at hG
              subst hG
              go_wp2_with fail
              refine bodyPost_ret (v := .tuple #[.int .i64 q, .int .i64 l, .int .i64 0]) (by simp [results, Tryz.results37, go_sem]) rfl ⟨rfl, hB⟩
theorem i_dstL (a b : List UInt8) (w : World) (ha : a.length ≤ 40) (hb : b.length ≤ 40) : Calls Tryz.prog 122 #[.string ⟨a.toArray⟩, .string ⟨b.toArray⟩] w fun e w' => e = .returned (.int .i64 (dist a b)) ∧ Below w.heap.size w w' := i_dist ⟨a.toArray⟩ ⟨b.toArray⟩ w ha hb
set_option maxRecDepth 100000 in
set_option maxHeartbeats 1000000 in
theorem i_NearestWord {b : Nat} {v : Value} {xs : List (List UInt8)} (s : List UInt8) (most : Int) (w : World) (h : OwnS w b v xs) (hs : s.length ≤ 9223372036854775807) (hx : ∀ j, (xs.getD j []).length ≤ 9223372036854775807) :
    Calls Tryz.prog 38 #[.string ⟨s.toArray⟩, v, .int .i64 most] w fun e w' => e = .returned (.tuple #[.int .i64 (neF s xs most).1, .int .i64 (neF s xs most).2.1, .int .i64 (neF s xs most).2.2]) ∧ Below w.heap.size w w' := by
  have cx := fun W => i_IsWord ⟨s.toArray⟩ W hs
  have cp := fun W (hW : Below w.heap.size w W) => i_isPhrase W (OwnS.below h hW) hx
  obtain ⟨hl0, A, c, rfl, p⟩ := h.opened
  cases h1 : wordB s with
  | false =>
    have hF : neF s xs most = (0, 0, 1) := by unfold neF; rw [h1]; rfl
    rw [hF]
    have CX := Lib.hid (fun W => toBelowB (cx W) h1)
    clear cx cp p h
    go_enter Tryz.func38, Tryz.ntmps38
    go_wp2_with fail
    refine (CX.out _).mono ?_
    rintro e w1 ⟨rfl, L⟩
    go_wp2_with fail
    refine bodyPost_ret (v := .tuple #[.int .i64 0, .int .i64 0, .int .i64 1]) (by simp [results, Tryz.results38, go_sem]) rfl ⟨rfl, L⟩
  | true =>
    have CX := Lib.hid (fun W => toBelowB (cx W) h1)
    cases h2 : phB xs with
    | false =>
      have hF : neF s xs most = (0, 0, 1) := by unfold neF; rw [h1, h2]; rfl
      rw [hF]
      have CP := Lib.hid (fun W hW => toBelowB (cp W hW) h2)
      clear cx cp p h
      go_enter Tryz.func38, Tryz.ntmps38
      go_wp2_with fail
      refine (CX.out _).mono ?_
      rintro e w1 ⟨rfl, L⟩
      go_wp2_with fail
      refine (CP.out _ L).mono ?_
      rintro e w2 ⟨rfl, hb⟩
      replace L := below_step L hb
      clear hb
      go_wp2_with fail
      refine bodyPost_ret (v := .tuple #[.int .i64 0, .int .i64 0, .int .i64 1]) (by simp [results, Tryz.results38, go_sem]) rfl ⟨rfl, L⟩
    | true =>
      have CP := Lib.hid (fun W hW => toBelowB (cp W hW) h2)
      have CI := Lib.hid (fun W => i_in most 0 20 W)
      cases h3 : inB most 0 20 with
      | false =>
        have hF : neF s xs most = (0, 0, 2) := by unfold neF; rw [h1, h2, h3]; rfl
        rw [hF]
        rw [h3] at CI
        clear cx cp p h
        go_enter Tryz.func38, Tryz.ntmps38
        go_wp2_with fail
        refine (CX.out _).mono ?_
        rintro e w1 ⟨rfl, L⟩
        go_wp2_with fail
        refine (CP.out _ L).mono ?_
        rintro e w2 ⟨rfl, hb⟩
        replace L := below_step L hb
        clear hb
        go_wp2_with fail
        refine (CI.out _).mono ?_
        rintro e w1 ⟨rfl, rfl⟩
        go_wp2_with fail
        refine bodyPost_ret (v := .tuple #[.int .i64 0, .int .i64 0, .int .i64 2]) (by simp [results, Tryz.results38, go_sem]) rfl ⟨rfl, L⟩
      | true =>
        have hF : neF s xs most = if (nrK s xs most xs.length).1 < 0 then (0, 0, 4) else ((nrK s xs most xs.length).1, (nrK s xs most xs.length).2, 0) := by unfold neF; rw [h1, h2, h3]; rfl
        rw [hF]
        rw [h3] at CI
        obtain ⟨m0, m1⟩ := inB_iff.1 h3
        have CN := Lib.hid (fun W => i_normal s W (word_len h1) (word_pos h1))
        have CM := Lib.hid (fun k (hk : k < xs.length) W => i_normal (xs.getD k []) W (word_len (ph_word h2 k hk)) (word_pos (ph_word h2 k hk)))
        have CD := Lib.hid (fun k (hk : k < xs.length) W => i_dstL (nmL s) (nmL (xs.getD k [])) W (nm40 h1) (nm40 (ph_word h2 k hk)))
        have BD := Lib.hid (fun k => nrK_bd (s := s) (xs := xs) (most := most) m0 k)
        have ST := Lib.hid (fun k => nrK_T (s := s) (xs := xs) (most := most) (k := k))
        have SF := Lib.hid (fun k (h : (nrK s xs most k).2 ≤ dist (nmL s) (nmL (xs.getD k []))) => nrK_F (s := s) (xs := xs) (most := most) (k := k) (by omega))
        have DB := Lib.hid (fun k => dist_bd (nmL s) (nmL (xs.getD k [])))
        have h60 := (ph_len h2).1
        have N0 : nrK s xs most 0 = (-1, most + 1) := rfl
        have P := Lib.hid p
        clear cx cp p h h1 h2 h3 hF hl0
        obtain ⟨n, hn⟩ : ∃ n, xs.length = n := ⟨_, rfl⟩
        rw [hn] at P CM CD h60 ⊢
        rw [hn] at CP
        clear hn
        obtain ⟨f, hf⟩ : ∃ f : Nat → Int × Int, nrK s xs most = f := ⟨_, rfl⟩
        rw [hf] at BD ST SF N0 ⊢
        clear hf
        have NN := Lib.hid N0
        have hFN : ∃ G : Int × Int × Int, (if (f n).1 < 0 then (0, 0, 4) else ((f n).1, (f n).2, 0)) = G := ⟨_, rfl⟩
        obtain ⟨G, hG⟩ := hFN
        rw [hG]
        have HG := Lib.hid hG
        clear hG
        clear N0
        go_enter Tryz.func38, Tryz.ntmps38
        go_wp2_with fail
        refine (CX.out _).mono ?_
        rintro e w1 ⟨rfl, L⟩
        go_wp2_with fail
        refine (CP.out _ L).mono ?_
        rintro e w2 ⟨rfl, hb⟩
        replace L := below_step L hb
        clear hb
        go_wp2_with fail
        refine (CI.out _).mono ?_
        rintro e w1 ⟨rfl, rfl⟩
        clear CX CP CI
        go_wp2_with fail
        go_loopw [9, 10, 31] (fun q l i wr => ∃ k : Nat, k ≤ n ∧ i = .int .i64 k ∧ q = .int .i64 (f k).1 ∧ l = .int .i64 (f k).2 ∧ Below w.heap.size w wr) (fun _ _ i _ => n - (intOf i).toNat)
        case atStart => exact ⟨0, by omega, rfl, by rw [NN.out], by rw [NN.out], L⟩
        case round =>
          clear L
          obtain ⟨k, hk, rfl, rfl, rfl, hB⟩ := hrel
          obtain ⟨⟨d1, d2⟩, ⟨d3, d4⟩, -⟩ := BD.out k
          by_cases hlt : k < n
          · obtain ⟨g1, rfl, -, hg1, hc1, -⟩ := P.out (by omega)
            have c1 := (hB.cell (p := ⟨g1, k, none⟩) hg1).trans (hc1 k hlt)
            have hg2 := Nat.lt_of_lt_of_le hg1 hB.size
            have cm := CM.out k hlt
            have cd := CD.out k hlt
            have st := ST.out k
            have sf := SF.out k
            obtain ⟨D0, D1⟩ := DB.out k
            obtain ⟨y, hy⟩ : ∃ y, xs.getD k [] = y := ⟨_, rfl⟩
            rw [hy] at c1 cm cd st sf D0
            obtain ⟨d, hd⟩ : ∃ d, dist (nmL s) (nmL y) = d := ⟨_, rfl⟩
            rw [hd] at cd st sf D0
            clear hc1 hy hd D1
            have CM' := Lib.hid cm
            have CD' := Lib.hid cd
            clear cm cd
            obtain ⟨p, hp⟩ : ∃ p, f k = p := ⟨_, rfl⟩
            rw [hp] at d1 d2 d3 d4 st sf ⊢
            clear hp
            obtain ⟨q, l⟩ := p
            dsimp only at d1 d2 d3 d4 st sf ⊢
            by_cases hdl : d < l
            · have HS := Lib.hid (st hdl)
              clear st sf
              go_wp2_with fail
              refine (CN.out _).mono ?_
              rintro e w3 ⟨rfl, hb3⟩
              replace hB := below_step hB hb3
              clear hb3
              go_wp2_with fail
              refine (CM'.out _).mono ?_
              rintro e w4 ⟨rfl, hb3⟩
              replace hB := below_step hB hb3
              clear hb3
              go_wp2_with fail
              refine (CD'.out _).mono ?_
              rintro e w5 ⟨rfl, hb3⟩
              replace hB := below_step hB hb3
              clear hb3
              go_wp2_with fail
              go_roundw
              case rel => exact ⟨k + 1, by omega, by go_num, by rw [HS.out], by rw [HS.out], hB⟩
              case measure => simp [intOf]; omega
            · replace hdl : l ≤ d := by omega
              have HS := Lib.hid (sf hdl)
              clear st sf
              go_wp2_with fail
              refine (CN.out _).mono ?_
              rintro e w3 ⟨rfl, hb3⟩
              replace hB := below_step hB hb3
              clear hb3
              go_wp2_with fail
              refine (CM'.out _).mono ?_
              rintro e w4 ⟨rfl, hb3⟩
              replace hB := below_step hB hb3
              clear hb3
              go_wp2_with fail
              refine (CD'.out _).mono ?_
              rintro e w5 ⟨rfl, hb3⟩
              replace hB := below_step hB hb3
              clear hb3
              go_wp2_with fail
              go_roundw
              case rel => exact ⟨k + 1, by omega, by go_num, by rw [HS.out], by rw [HS.out], hB⟩
              case measure => simp [intOf]; omega
          · obtain rfl : k = n := by omega
            have hG := HG.out
            clear CN CM CD BD ST SF DB P NN HG
            obtain ⟨p, hp⟩ : ∃ p, f k = p := ⟨_, rfl⟩
            rw [hp] at d1 d2 d3 d4 hG ⊢
            clear hp
            obtain ⟨q, l⟩ := p
            dsimp only at d1 d2 d3 d4 hG ⊢
            by_cases hq : q < 0
            · rw [if_pos hq] at hG
              subst hG
              go_wp2_with fail
              refine bodyPost_ret (v := .tuple #[.int .i64 0, .int .i64 0, .int .i64 4]) (by simp [results, Tryz.results38, go_sem]) rfl ⟨rfl, hB⟩
            · rw [if_neg hq] at hG
              subst hG
              go_wp2_with fail
              refine bodyPost_ret (v := .tuple #[.int .i64 q, .int .i64 l, .int .i64 0]) (by simp [results, Tryz.results38, go_sem]) rfl ⟨rfl, hB⟩
end Go.Proofs.YtelppggliieniaaGreatDoor
