/- A text split at blanks: the program's and the reference's functions return what the plain function says. Conditions: a length that a machine can hold; that the library's variable MaxLen holds an int. -/
import Derived.Test.YtmpgokijlikddaaGreatDoorPhr
import Derived.Test.YtmpgokijlikddaaGreatDoorSpl
import Derived.Test.YtmpgokijlikddaaGreatDoorMax
namespace Go.Proofs.YtmpgokijlikddaaGreatDoor
open Go.RowKit
/-- the words of a text, and the code -/
def spF (x : List UInt8) : List (List UInt8) × Int := if x = [] then ([], 0) else if phB (spl 32 x) then (spl 32 x, 0) else ([], 6)
theorem i_splitb (x : List UInt8) (w : World) (hm : MaxOk w) (hx : x.length ≤ 1048576) : Calls Tryz.prog 104 #[.string ⟨x.toArray⟩, .string ⟨#[32]⟩] w fun e w' => ∃ v, e = .returned v ∧ OwnS w' w.heap.size v (spl 32 x) ∧ Below w.heap.size w w' := by
  obtain ⟨m, hm⟩ := hm
  have hc : Lib.countB ⟨x.toArray⟩ ⟨#[32]⟩ ≤ x.length := Lib.countB_le ⟨#[32]⟩ (by decide) x.length ⟨x.toArray⟩ (Nat.le_refl _)
  refine (Tryz.strings_Split ⟨x.toArray⟩ ⟨#[32]⟩ m w (by show x.length < _; omega) hm (by decide)).mono fun e w' ⟨he, hw⟩ => ?_
  have hd := Lib.splitB_data ⟨#[32]⟩ 0 (Lib.countB ⟨x.toArray⟩ ⟨#[32]⟩) ⟨x.toArray⟩
  have hk : Lib.splitK [32] 0 (Lib.countB ⟨x.toArray⟩ ⟨#[32]⟩) x = spl 32 x := splK 32 x _ (Nat.le_refl _)
  have hl := Lib.splitB_all ⟨#[32]⟩ (by decide) 0 _ ⟨x.toArray⟩ rfl
  have hlen : (spl 32 x).length = Lib.countB ⟨x.toArray⟩ ⟨#[32]⟩ + 1 := by
    have h1 := congrArg List.length hd
    rw [List.length_map, hl] at h1
    rw [← hk]; exact h1.symm
  have hcells : (Lib.splitB ⟨#[32]⟩ 0 (Lib.countB ⟨x.toArray⟩ ⟨#[32]⟩) ⟨x.toArray⟩).map Value.string = (spl 32 x).map sv := by
    rw [← hk]
    have e1 : Lib.splitK [32] 0 (Lib.countB ⟨x.toArray⟩ ⟨#[32]⟩) x = (Lib.splitB ⟨#[32]⟩ 0 (Lib.countB ⟨x.toArray⟩ ⟨#[32]⟩) ⟨x.toArray⟩).map (·.data.toList) := hd.symm
    rw [e1, List.map_map]
    exact List.map_congr_left fun s _ => by simp [sv, Function.comp]
  refine ⟨_, he, ?_, ?_⟩
  · rw [hw, hcells, ← hlen]
    exact OwnS.lit w w.heap.size _ (spl 32 x) rfl (Nat.le_refl _) (by rw [hlen]; unfold maxLen; omega)
  · rw [hw]; exact below_alloc _ _
theorem i_SplitPhrase (x : List UInt8) (w : World) (hm : MaxOk w) (hx : x.length ≤ 1048576) : Calls Tryz.prog 37 #[.string ⟨x.toArray⟩] w fun e w' => ∃ v, e = .returned (.tuple #[v, .int .i64 (spF x).2]) ∧ OwnS w' w.heap.size v (spF x).1 ∧ Below w.heap.size w w' := by
  have con := i_splitb x w hm hx
  clear hm
  cases x with
  | nil =>
    have hF : spF [] = ([], 0) := rfl
    rw [hF]
    clear con
    go_enter Tryz.func37, Tryz.ntmps37
    go_wp2_with fail
    go_ret2
    exact ⟨_, rfl, OwnS.nil _ _, Below.refl _ _⟩
  | cons c0 x0 =>
    have hne : (c0 :: x0) ≠ [] := by simp
    obtain ⟨x, hxx⟩ : ∃ x, c0 :: x0 = x := ⟨_, rfl⟩
    rw [hxx] at con hx hne ⊢
    have hse := spl_each 32 x
    have hse' : ∀ i, ((spl 32 x).getD i []).length ≤ 9223372036854775807 := fun i => by
      by_cases hi : i < (spl 32 x).length
      · have := hse (spl 32 x)[i] (List.getElem_mem hi)
        rw [show (spl 32 x).getD i [] = (spl 32 x)[i] by simp [List.getD, hi]]; omega
      · rw [List.getD_eq_getElem?_getD, List.getElem?_eq_none (by omega)]; simp
    have con2 := fun (b : Nat) (v : Value) W (h : OwnS W b v (spl 32 x)) => i_isPhrase W h hse'
    have he0 : x.isEmpty = false := by rw [← hxx]; rfl
    cases hp : phB (spl 32 x) with
    | true =>
      have hF : spF x = (spl 32 x, 0) := by unfold spF; rw [if_neg hne, hp]; rfl
      rw [hF]
      have con3 := fun b v W h => toBelowB (con2 b v W h) hp
      have CON := Lib.hid con
      have CON2 := Lib.hid con3
      obtain ⟨l, hl⟩ : ∃ l, spl 32 x = l := ⟨_, rfl⟩
      rw [hl] at CON CON2 ⊢
      clear con con2 con3 hse hse' hp hl hF hxx
      go_enter Tryz.func37, Tryz.ntmps37
      go_wp2_with fail
      refine CON.out.mono ?_
      rintro e w1 ⟨v, rfl, ho, hb⟩
      obtain ⟨hl0, A0, c1, rfl, _⟩ := ho.opened
      go_wp2_with fail
      refine (CON2.out _ _ _ ho).mono ?_
      rintro e w2 ⟨rfl, hb2⟩
      go_wp2_with fail
      go_ret2
      exact ⟨_, rfl, ho.below hb2, below_step hb hb2⟩
    | false =>
      have hF : spF x = ([], 6) := by unfold spF; rw [if_neg hne, hp]; rfl
      rw [hF]
      have con3 := fun b v W h => toBelowB (con2 b v W h) hp
      have CON := Lib.hid con
      have CON2 := Lib.hid con3
      obtain ⟨l, hl⟩ : ∃ l, spl 32 x = l := ⟨_, rfl⟩
      rw [hl] at CON CON2
      clear con con2 con3 hse hse' hp hl hF hxx
      go_enter Tryz.func37, Tryz.ntmps37
      go_wp2_with fail
      refine CON.out.mono ?_
      rintro e w1 ⟨v, rfl, ho, hb⟩
      obtain ⟨hl0, A0, c1, rfl, _⟩ := ho.opened
      go_wp2_with fail
      refine (CON2.out _ _ _ ho).mono ?_
      rintro e w2 ⟨rfl, hb2⟩
      go_wp2_with fail
      go_ret2
      exact ⟨_, rfl, OwnS.nil _ _, below_step hb hb2⟩
/-- how far the reference has come: O the words, f the begin of the next -/
def At (x : List UInt8) (O : List (List UInt8)) (f i : Nat) : Prop := f ≤ i ∧ i ≤ x.length ∧ spl 32 x = O ++ spl 32 (x.drop f) ∧ ∀ j, f ≤ j → j < i → x.getD j 0 ≠ 32
theorem At.start (x : List UInt8) : At x [] 0 0 := ⟨Nat.le_refl _, Nat.zero_le _, by simp, fun j _ h => absurd h (Nat.not_lt_zero j)⟩
theorem At.more {x : List UInt8} {O : List (List UInt8)} {f i : Nat} (h : At x O f i) (hi : i < x.length) (hc : x.getD i 0 ≠ 32) : At x O f (i + 1) :=
  ⟨by have := h.1; omega, hi, h.2.2.1, fun j h1 h2 => by
    by_cases he : j = i
    · subst he; exact hc
    · exact h.2.2.2 j h1 (by omega)⟩
theorem mem_seg {x : List UInt8} {f i : Nat} (hf : f ≤ i) (hi : i ≤ x.length) (h : ∀ j, f ≤ j → j < i → x.getD j 0 ≠ 32) : ∀ c ∈ (x.drop f).take (i - f), c ≠ 32 := by
  intro c hc
  obtain ⟨k, hk, rfl⟩ := List.mem_iff_getElem.1 hc
  have hk' : k < i - f := by simp at hk; omega
  have := h (f + k) (by omega) (by omega)
  rw [List.getD_eq_getElem?_getD, List.getElem?_eq_getElem (by omega : f + k < x.length)] at this
  simpa using this
theorem At.hit {x : List UInt8} {O : List (List UInt8)} {f i : Nat} (h : At x O f i) (hi : i < x.length) (hc : x.getD i 0 = 32) : At x (O ++ [(x.drop f).take (i - f)]) (i + 1) (i + 1) := by
  obtain ⟨h1, h2, h3, h4⟩ := h
  refine ⟨Nat.le_refl _, hi, ?_, fun j a b => by omega⟩
  have hx : x[i] = 32 := by rw [← hc, List.getD_eq_getElem?_getD, List.getElem?_eq_getElem hi]; rfl
  have e : x.drop f = (x.drop f).take (i - f) ++ 32 :: x.drop (i + 1) := by
    rw [← hx, ← List.drop_eq_getElem_cons hi]
    have : x.drop i = (x.drop f).drop (i - f) := by rw [List.drop_drop, show f + (i - f) = i from by omega]
    rw [this, List.take_append_drop]
  rw [h3, e, spl_hit 32 _ _ (mem_seg h1 h2 h4), List.append_assoc, ← e]; rfl
theorem At.done {x : List UInt8} {O : List (List UInt8)} {f : Nat} (h : At x O f x.length) : spl 32 x = O ++ [(x.drop f).take (x.length - f)] := by
  obtain ⟨h1, h2, h3, h4⟩ := h
  have e : (x.drop f).take (x.length - f) = x.drop f := List.take_of_length_le (by simp)
  have := mem_seg h1 h2 h4
  rw [e] at this ⊢
  rw [h3, spl_end 32 _ this]
theorem ext_seg (x : List UInt8) (f i : Nat) : (⟨x.toArray⟩ : ByteArray).extract f i = ⟨((x.drop f).take (i - f)).toArray⟩ := by
  apply ByteArray.ext
  simp [ByteArray.data_extract]
set_option maxRecDepth 100000 in
set_option maxHeartbeats 800000 in
theorem s_split (x : List UInt8) (w : World) (hx : x.length ≤ 1048576) : Calls Tryz.prog 105 #[.string ⟨x.toArray⟩, .int .u8 32] w fun e w' => ∃ v, e = .returned v ∧ OwnS w' w.heap.size v (spl 32 x) ∧ Below w.heap.size w w' := by
  go_enter Tryz.func105, Tryz.ntmps105
  go_wp2_with fail
  go_loopw [5, 6, 7] (fun o f i wr => ∃ (k F : Nat) (O : List (List UInt8)), k ≤ x.length + 1 ∧ i = .int .i64 k ∧ f = .int .i64 F ∧ OwnS wr w.heap.size o O ∧ Hid ((k ≤ x.length ∧ At x O F k) ∨ (k = x.length + 1 ∧ spl 32 x = O)) ∧ Below w.heap.size w wr) (fun _ _ i _ => x.length + 1 - (intOf i).toNat)
  case atStart => exact ⟨0, 0, [], by omega, rfl, rfl, by simpa using OwnS.lit w w.heap.size #[] [] rfl (Nat.le_refl _) (by unfold maxLen; simp), Lib.hid (.inl ⟨by omega, At.start x⟩), below_alloc _ _⟩
  case round =>
    obtain ⟨k, F, O, hk, rfl, rfl, hown, HA, hB⟩ := hrel
    have hw := hB.size
    obtain ⟨hOl, A0, c1, rfl, _⟩ := hown.opened
    rcases HA.out with ⟨hk1, hat⟩ | ⟨rfl, hfin⟩
    · have hOlen : O.length ≤ x.length + 1 := by
        have h1 := spl_len 32 x
        rw [hat.2.2.1, List.length_append] at h1
        omega
      have hF := hat.1
      by_cases hlt : k < x.length
      · obtain ⟨c, hc⟩ : ∃ c, x.getD k 0 = c := ⟨_, rfl⟩
        have hg : (⟨x.toArray⟩ : ByteArray)[k]'hlt = c := by
          rw [← hc, List.getD_eq_getElem?_getD, List.getElem?_eq_getElem hlt]; rfl
        have HG := Lib.hid hg
        have hne : ((k : Int) == (x.length : Int)) = false := by simp; omega
        by_cases h32 : c = 32
        · have HN := Lib.hid (hat.hit hlt (hc.trans h32))
          subst h32
          clear hat hc HA HG
          go_wp2_with (at_builtin; refine wpList_appS rfl (.tmp 26) (.tmp 31) rfl wr w.heap.size _ O ((x.drop F).take (k - F)) _ (congrArg Value.string (ext_seg x F k)) rfl hown rfl (by omega) hw ?_; intro v' w2 hown2 hg2)
          go_roundw
          case rel => exact ⟨k + 1, k + 1, O ++ [(x.drop F).take (k - F)], by omega, by go_num, by go_num, hown2, Lib.hid (.inl ⟨by omega, HN.out⟩), hown.below_grown hB hg2 hw⟩
          case measure => simp [intOf]; omega
        · have HN := Lib.hid (hat.more hlt (by rw [hc]; exact h32))
          have hx' : ((c.toNat : Int) == 32) = false := by
            have : (c.toNat : Int) ≠ 32 := fun e => h32 (UInt8.toNat_inj.1 (by have : (32 : UInt8).toNat = 32 := rfl; omega))
            simpa using this
          clear hat hc HA h32 HG
          go_wp2_with fail
          go_roundw
          case rel => exact ⟨k + 1, F, O, by omega, by go_num, rfl, hown, Lib.hid (.inl ⟨by omega, HN.out⟩), hB⟩
          case measure => simp [intOf]; omega
      · obtain rfl : k = x.length := by omega
        have HN := Lib.hid hat.done
        clear hat HA
        go_wp2_with (at_builtin; refine wpList_appS rfl (.tmp 26) (.tmp 31) rfl wr w.heap.size _ O ((x.drop F).take (x.length - F)) _ (congrArg Value.string (ext_seg x F x.length)) rfl hown rfl (by omega) hw ?_; intro v' w2 hown2 hg2)
        go_roundw
        case rel => exact ⟨x.length + 1, x.length + 1, O ++ [(x.drop F).take (x.length - F)], by omega, by go_num, by go_num, hown2, Lib.hid (.inr ⟨rfl, HN.out⟩), hown.below_grown hB hg2 hw⟩
        case measure => simp [intOf]
    · have HFI := Lib.hid hfin; clear hfin HA
      go_wp2_with fail
      go_ret
      exact ⟨_, rfl, by rw [HFI.out]; show OwnS wr w.heap.size (.slice A0 O.length c1) O; exact hown, hB⟩
end Go.Proofs.YtmpgokijlikddaaGreatDoor
