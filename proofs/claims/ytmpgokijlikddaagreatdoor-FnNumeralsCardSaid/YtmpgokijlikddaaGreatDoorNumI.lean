/- A number in decimal, read by the program (strconv.ParseInt, then the same text). Conditions: a text of some length; the table of powers and the two errors as they were laid. -/
import Derived.Test.YtmpgokijlikddaaGreatDoorNmP
import Derived.Test.YtmpgokijlikddaaGreatDoorDecI
import Derived.Lib.ParseIntBTie
namespace Go.Proofs.YtmpgokijlikddaaGreatDoor
open Go.RowKit Go.Sort Go.Shelf Go.Lib
/-- the variable g holds an error or nil -/
def ErrAt (w : World) (g : Nat) : Prop := ∃ ev, w.cell? ⟨g, 0, none⟩ = some ev ∧ (ev = .nilIface ∨ ∃ te pe, ev = .iface te pe)
theorem ErrAt.below {w w' : World} {g : Nat} (h : ErrAt w g) (hb : Below w.heap.size w w') : ErrAt w' g := by
  obtain ⟨ev, h1, h2⟩ := h
  exact ⟨ev, (hb.cell (p := ⟨g, 0, none⟩) (World.block_lt_of_cell? w _ h1)).trans h1, h2⟩
/-- what number asks of the world -/
def NumOk (w : World) : Prop := Tab w ∧ ErrAt w 4 ∧ ErrAt w 5
theorem NumOk.below {w w' : World} (h : NumOk w) (hb : Below w.heap.size w w') : NumOk w' := ⟨h.1.below hb, h.2.1.below hb, h.2.2.below hb⟩
theorem below_bytes (w : World) (e : TypeId) (t : ByteArray) : Below w.heap.size w (bytesWorld w e t) := Go.Joins.below_bytesWorld _ w e t (Nat.le_refl _)
theorem i_decI (v : Int) (w : World) (h0 : -9223372036854775808 ≤ v) (h1 : v ≤ 9223372036854775807) (ht : Tab w) : Calls Tryz.prog 78 #[.int .i64 v] w fun e w' => e = .returned (.string ⟨(Lib.itoa v).toArray⟩) ∧ Below w.heap.size w w' := by
  have CON := Lib.hid (Tryz.strconv_FormatInt_10 v h0 h1 w ht)
  clear ht
  go_enter Tryz.func78, Tryz.ntmps78
  go_wp2_with fail
  refine CON.out.mono ?_
  rintro e w1 ⟨rfl, k, os, rfl⟩
  go_wp2_with fail
  go_ret
  exact ⟨rfl, below_growD _ _ _⟩
theorem num_neg {x : List UInt8} {v : Int} (hp : parseIntB 64 x = .ok v) (h : v < 0) : numF x = (0, false) := by unfold numF; rw [hp]; dsimp only; rw [if_neg (fun h' => by omega)]
theorem num_ne {x : List UInt8} {v : Int} (hp : parseIntB 64 x = .ok v) (h : ¬ itoa v = x) : numF x = (0, false) := by unfold numF; rw [hp]; dsimp only; rw [if_neg (fun h' => h h'.2)]
theorem num_ok {x : List UInt8} {v : Int} (hp : parseIntB 64 x = .ok v) (h0 : 0 ≤ v) (h : itoa v = x) : numF x = (v, true) := by unfold numF; rw [hp]; dsimp only; rw [if_pos ⟨h0, h⟩]
set_option maxRecDepth 100000 in
set_option maxHeartbeats 2000000 in
theorem i_number (x : List UInt8) (w : World) (hx : x.length ≤ 1048576) (hN : NumOk w) : Calls Tryz.prog 126 #[.string ⟨x.toArray⟩] w fun e w' => e = .returned (.tuple #[.int .i64 (numF x).1, .bool (numF x).2]) ∧ Below w.heap.size w w' := by
  have hsz : (⟨x.toArray⟩ : ByteArray).size = x.length := by simp [ByteArray.size]
  have hdl : (⟨x.toArray⟩ : ByteArray).data.toList = x := by simp
  obtain ⟨hT, ⟨e1, he1, he1'⟩, ⟨e2, he2, he2'⟩⟩ := hN
  rcases hp : parseIntB 64 x with v | _ | _
  · have con := Tryz.strconv_ParseInt_10_at64_ok ⟨x.toArray⟩ (by omega) v (by rw [hdl]; exact hp) w
    obtain ⟨b0, b1⟩ := parseIntB_bounds hp
    have v0 : -9223372036854775808 ≤ v := by have : ((2 ^ (64 - 1) : Nat) : Int) = 9223372036854775808 := by decide
                                             omega
    have v1 : v ≤ 9223372036854775807 := by have : ((2 ^ (64 - 1) : Nat) : Int) = 9223372036854775808 := by decide
                                            omega
    have CON := Lib.hid con
    have HT := Lib.hid hT
    clear con hT he1 he2 b0 b1
    by_cases hv : v < 0
    · rw [num_neg hp hv]
      clear hp
      go_enter Tryz.func126, Tryz.ntmps126
      go_wp2_with fail
      refine CON.out.mono ?_
      rintro e w1 ⟨rfl, hw1⟩
      have hb : Below w.heap.size w w1 := by rcases hw1 with rfl | ⟨t, rfl⟩; exact Below.refl _ _; exact below_bytes _ _ _
      clear hw1
      go_wp2_with fail
      go_ret2
      exact ⟨rfl, hb⟩
    · have hv' : 0 ≤ v := by omega
      have DC := Lib.hid (fun W h => i_decI v W v0 v1 h)
      by_cases hi : itoa v = x
      · rw [num_ok hp hv' hi]
        rw [hi] at DC
        clear hp hi hv
        go_enter Tryz.func126, Tryz.ntmps126
        go_wp2_with fail
        refine CON.out.mono ?_
        rintro e w1 ⟨rfl, hw1⟩
        have hb : Below w.heap.size w w1 := by rcases hw1 with rfl | ⟨t, rfl⟩; exact Below.refl _ _; exact below_bytes _ _ _
        clear hw1
        go_wp2_with fail
        refine (DC.out _ (HT.out.below hb)).mono ?_
        rintro e w2 ⟨rfl, hb2⟩
        go_wp2_with fail
        go_ret2
        exact ⟨rfl, below_step hb hb2⟩
      · rw [num_ne hp hi]
        obtain ⟨y, hy⟩ : ∃ y, itoa v = y := ⟨_, rfl⟩
        rw [hy] at DC hi
        have h1 : (y == x) = false := beq_eq_false_iff_ne.2 hi
        have h2 : decide (y = x) = false := by simpa using hi
        have h3 : ¬ (⟨y.toArray⟩ : ByteArray) = ⟨x.toArray⟩ := fun e => hi (by injection e with e; simpa using e)
        have h4 : decide ((⟨y.toArray⟩ : ByteArray) = ⟨x.toArray⟩) = false := by simpa using hi
        clear hp hv hy
        go_enter Tryz.func126, Tryz.ntmps126
        go_wp2_with fail
        refine CON.out.mono ?_
        rintro e w1 ⟨rfl, hw1⟩
        have hb : Below w.heap.size w w1 := by rcases hw1 with rfl | ⟨t, rfl⟩; exact Below.refl _ _; exact below_bytes _ _ _
        clear hw1
        go_wp2_with fail
        refine (DC.out _ (HT.out.below hb)).mono ?_
        rintro e w2 ⟨rfl, hb2⟩
        go_wp2_with fail
        go_ret2
        exact ⟨rfl, below_step hb hb2⟩
  · have con := Any.strconv_ParseInt_10_at64_syntax Tryz.laysC174 ⟨x.toArray⟩ (by omega) (by rw [hdl]; exact hp) e1 w he1 he1'
    have hF : numF x = (0, false) := by unfold numF; rw [hp]
    rw [hF]
    have CON := Lib.hid con
    clear con he1 he2 hF hp hT
    go_enter Tryz.func126, Tryz.ntmps126
    go_wp2_with fail
    refine CON.out.mono ?_
    rintro e w1 ⟨N, rfl, hN, hh, hb⟩
    clear hN hh
    go_wp2_with fail
    go_ret2
    exact ⟨rfl, hb⟩
  · have con := Tryz.strconv_ParseInt_10_at64_range ⟨x.toArray⟩ (by omega) (by rw [hdl]; exact hp) e2 w he2 he2'
    have hF : numF x = (0, false) := by unfold numF; rw [hp]
    rw [hF]
    have CON := Lib.hid con
    clear con he1 he2 hF hp hT
    go_enter Tryz.func126, Tryz.ntmps126
    go_wp2_with fail
    refine CON.out.mono ?_
    rintro e w1 ⟨N, rfl, hN, hh, hb⟩
    clear hN hh
    go_wp2_with fail
    go_ret2
    exact ⟨rfl, hb⟩
end Go.Proofs.YtmpgokijlikddaaGreatDoor
