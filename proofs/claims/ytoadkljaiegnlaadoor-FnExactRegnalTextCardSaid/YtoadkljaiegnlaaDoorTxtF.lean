/- RegnalText: the program's and the reference's functions return what the plain function says. Conditions: lengths that a machine can hold; how the list lies; for the program, the table of powers as it was laid. -/
import Derived.Test.YtoadkljaiegnlaaDoorTxtI
import Derived.Test.YtoadkljaiegnlaaDoorTxtS
namespace Go.Proofs.YtoadkljaiegnlaaDoor
open Go.RowKit
theorem tx_1 {rs : List RG} {m : Int} (h : areB rs = false) : txF rs m = ([], 1) := by unfold txF; rw [h]; rfl
theorem tx_2 {rs : List RG} {m : Int} (h : areB rs = true) (h2 : inB m 0 730499 = false) : txF rs m = ([], 2) := by unfold txF; rw [h, h2]; rfl
theorem tx_0 {rs : List RG} {m : Int} (h : areB rs = true) (h2 : inB m 0 730499 = true) : txF rs m = ((if onK rs m rs.length = [] then [45] else Lib.join (wdsT rs m (onK rs m rs.length)) [44]), 0) := by unfold txF; rw [h, h2]; rfl
set_option maxRecDepth 100000 in
theorem i_RegnalText (g c : Nat) (rs : List RG) (m : Int) (w : World) (hR : RowR w g rs.length rs) (hn : rs.length ≤ 1048576) (hok : ∀ i, rgOk (rs.getD i rg0)) (hg : g < w.heap.size) (ht : Tab w) :
    Calls Tryd.prog 12 #[.slice (some ⟨g, 0, none⟩) rs.length c, .int .i64 m] w fun e w' => e = .returned (.tuple #[.string ⟨(txF rs m).1.toArray⟩, .int .i64 (txF rs m).2]) ∧ Below w.heap.size w w' := by
  have con := fun gd W h1 h2 h3 => i_chk g c gd rs m W h1 hn hok h2 h3
  have hA1 := (below_alloc w (.cells #[.int .i64 m] 2))
  have hR1 := hR.below hA1 hg
  have hcase : (areB rs = true ∧ inB m 0 730499 = true) ∨ (∃ k, (onF rs m).2 = k ∧ txF rs m = ([], k) ∧ (k = 1 ∨ k = 2)) := by
    cases h1 : areB rs
    · exact .inr ⟨1, by unfold onF; rw [h1]; rfl, tx_1 h1, .inl rfl⟩
    · cases h2 : inB m 0 730499
      · exact .inr ⟨2, by unfold onF; rw [h1, h2]; rfl, tx_2 h1 h2, .inr rfl⟩
      · exact .inl ⟨rfl, rfl⟩
  rcases hcase with ⟨h1, h2⟩ | ⟨k, hk, hF, hk'⟩
  · rw [tx_0 h1 h2]
    exact i_txt7 g c rs m w hR hn hok hg ht h1 h2
  · rw [hF]
    rw [hk] at con
    have CON := Lib.hid con
    have HR1 := Lib.hid hR1
    clear con hk hF hR1 hR ht
    obtain ⟨n, hnn⟩ : ∃ n, rs.length = n := ⟨_, rfl⟩
    rw [hnn] at CON HR1 ⊢
    clear hnn hn hok
    rcases hk' with rfl | rfl
    all_goals
      go_enter Tryd.func12, Tryd.ntmps12
      go_wp2_with fail
      refine (CON.out _ _ HR1.out (by simp) (Blk.new w _ _).c0).mono ?_
      rintro e w1 ⟨rfl, hb⟩
      have L1 := hA1.trans (hb.mono (by simp))
      go_wp2_with fail
      go_ret2
      exact ⟨rfl, L1⟩
set_option maxRecDepth 100000 in
theorem s_RegnalText (g c : Nat) (rs : List RG) (m : Int) (w : World) (hR : RowR w g rs.length rs) (hn : rs.length ≤ 1048576) (hok : ∀ i, rgOk (rs.getD i rg0)) (hg : g < w.heap.size) :
    Calls Tryd.prog 10 #[.slice (some ⟨g, 0, none⟩) rs.length c, .int .i64 m] w fun e w' => e = .returned (.tuple #[.string ⟨(txF rs m).1.toArray⟩, .int .i64 (txF rs m).2]) ∧ Below w.heap.size w w' := by
  have con := s_AreReigns g c rs w hR hn hok
  cases h1 : areB rs with
  | false =>
    rw [tx_1 h1]
    rw [h1] at con
    have CON := Lib.hid con
    clear con h1
    go_enter Tryd.func10, Tryd.ntmps10
    go_wp2_with fail
    refine CON.out.mono ?_
    rintro e w1 ⟨rfl, hb⟩
    go_wp2_with fail
    go_ret2
    exact ⟨rfl, hb⟩
  | true =>
    cases h2 : inB m 0 730499 with
    | true =>
      rw [tx_0 h1 h2]
      exact s_txt7 g c rs m w hR hn hok hg h1 h2
    | false =>
      rw [tx_2 h1 h2]
      rw [h1] at con
      have CON := Lib.hid con
      have SD := Lib.hid (fun W => toB (s_day m W) h2)
      clear con h1 h2
      go_enter Tryd.func10, Tryd.ntmps10
      go_wp2_with fail
      refine CON.out.mono ?_
      rintro e w1 ⟨rfl, hb⟩
      go_wp2_with fail
      refine (SD.out _).mono ?_
      rintro e w2 ⟨rfl, rfl⟩
      go_wp2_with fail
      go_ret2
      exact ⟨rfl, hb⟩
end Go.Proofs.YtoadkljaiegnlaaDoor
