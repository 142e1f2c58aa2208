/- The reigns that a day is in: the program's and the reference's functions return what the plain function says. Conditions: lengths that a machine can hold; how the list lies. -/
import Derived.Test.YtoadkljaiegnlaaDoorAreI
import Derived.Test.YtoadkljaiegnlaaDoorSlices
namespace Go.Proofs.YtoadkljaiegnlaaDoor
open Go.RowKit
def onK (rs : List RG) (m : Int) : Nat → List Int
  | 0 => []
  | k + 1 => if inB m (rs.getD k rg0).2.1 (rs.getD k rg0).2.2 then onK rs m k ++ [(k : Int)] else onK rs m k
theorem onK_T {rs : List RG} {m : Int} {k : Nat} (h : inB m (rs.getD k rg0).2.1 (rs.getD k rg0).2.2 = true) : onK rs m (k + 1) = onK rs m k ++ [(k : Int)] := by rw [onK, if_pos h]
theorem onK_F {rs : List RG} {m : Int} {k : Nat} (h : inB m (rs.getD k rg0).2.1 (rs.getD k rg0).2.2 = false) : onK rs m (k + 1) = onK rs m k := by rw [onK, if_neg (by rw [h]; decide)]
theorem onK_len (rs : List RG) (m : Int) : ∀ k, (onK rs m k).length ≤ k
  | 0 => by simp [onK]
  | k + 1 => by
    have := onK_len rs m k
    unfold onK; split
    · simp; omega
    · omega
set_option maxRecDepth 100000 in
set_option maxHeartbeats 600000 in
theorem s_on7 (g c : Nat) (rs : List RG) (m : Int) (w : World) (hR : RowR w g rs.length rs) (hn : rs.length ≤ 1048576) : Calls Tryd.prog 31 #[.slice (some ⟨g, 0, none⟩) rs.length c, .int .i64 m] w fun e w' => ∃ v, e = .returned v ∧ OwnI w' w.heap.size v (onK rs m rs.length) ∧ Below w.heap.size w w' := by
  have HR := Lib.hid hR; clear hR
  have HT := Lib.hid (fun k => @onK_T rs m k)
  have HF := Lib.hid (fun k => @onK_F rs m k)
  have HL := Lib.hid (onK_len rs m)
  obtain ⟨n, hnn⟩ : ∃ n, rs.length = n := ⟨_, rfl⟩
  rw [hnn] at HR hn ⊢
  clear hnn
  go_enter Tryd.func31, Tryd.ntmps31
  go_wp2_with fail
  go_loopw [5, 6] (fun o i wr => ∃ k : Nat, k ≤ n ∧ i = .int .i64 k ∧ OwnI wr w.heap.size o (onK rs m k) ∧ Below w.heap.size w wr) (fun _ i _ => n - (intOf i).toNat)
  case atStart => exact ⟨0, by omega, rfl, OwnI.lit0 w, below_alloc _ _⟩
  case round =>
    obtain ⟨k, hk, rfl, hown, hB⟩ := hrel
    have hw := hB.size
    by_cases hlt : k < n
    · obtain ⟨hg, hc⟩ := HR.out (by omega)
      obtain ⟨_, h1, h2⟩ := hc k hlt
      have c1 := (hB.cell (p := ⟨g, k * 3 + 1, none⟩) hg).trans h1
      have c2 := (hB.cell (p := ⟨g, k * 3 + 2, none⟩) hg).trans h2
      have hgw : g < wr.heap.size := Nat.lt_of_lt_of_le hg hw
      have hT := HT.out k
      have hF := HF.out k
      have hlen := HL.out k
      obtain ⟨p, hp⟩ : ∃ p, rs.getD k rg0 = p := ⟨_, rfl⟩
      rw [hp] at c1 c2 hT hF
      obtain ⟨x, f, t⟩ := p
      obtain ⟨b, hb⟩ : ∃ b, inB m f t = b := ⟨_, rfl⟩
      have HO := Lib.hid hown
      clear hc h1 h2 hp
      cases b with
      | false =>
        have HS := Lib.hid (hF hb)
        clear hT hF hown
        go_wp2_with fail
        go_quiet ((go_at_call 66; exact q1 (toB (s_in _ _ _ _) hb)))
        go_wp2_with fail
        go_roundw
        case rel => exact ⟨k + 1, by omega, by go_num, by rw [HS.out]; exact HO.out, below_drewN hB _⟩
        case measure => simp [intOf]; omega
      | true =>
        have HS := Lib.hid (hT hb)
        clear hT hF hown
        go_wp2_with fail
        go_quiet ((go_at_call 66; exact q1 (toB (s_in _ _ _ _) hb)))
        have hB2 := below_drewN hB nq
        have hown := HO.out.drewN nq
        have hw2 : w.heap.size ≤ (wr.drewN nq).heap.size := hw
        clear c1 c2 hgw hw hB HO
        generalize wr.drewN nq = ws at *
        go_wp2_with (at_builtin; refine wpList_appI rfl _ _ rfl _ _ _ _ _ rfl hown rfl (by omega) (by omega) ?_; intro v' w5 hown5 hg5)
        go_roundw
        case rel => exact ⟨k + 1, by omega, by go_num, by rw [HS.out]; exact hown5, hown.below_grown hB2 hg5 hw2⟩
        case measure => simp [intOf]; omega
    · obtain rfl : k = n := by omega
      have HO := Lib.hid hown; clear hown
      go_wp2_with fail
      go_ret
      exact ⟨_, rfl, HO.out, hB⟩
set_option maxRecDepth 100000 in
set_option maxHeartbeats 600000 in
theorem i_on7 (g c : Nat) (rs : List RG) (m : Int) (w : World) (hR : RowR w g rs.length rs) (hn : rs.length ≤ 1048576) : Calls Tryd.prog 37 #[.slice (some ⟨g, 0, none⟩) rs.length c, .int .i64 m] w fun e w' => ∃ v, e = .returned v ∧ OwnI w' w.heap.size v (onK rs m rs.length) ∧ Below w.heap.size w w' := by
  have HR := Lib.hid hR; clear hR
  have HT := Lib.hid (fun k => @onK_T rs m k)
  have HF := Lib.hid (fun k => @onK_F rs m k)
  have HL := Lib.hid (onK_len rs m)
  obtain ⟨n, hnn⟩ : ∃ n, rs.length = n := ⟨_, rfl⟩
  rw [hnn] at HR hn ⊢
  clear hnn
  go_enter Tryd.func37, Tryd.ntmps37
  go_wp2_with fail
  go_loopw [5, 11] (fun o i wr => ∃ k : Nat, k ≤ n ∧ i = .int .i64 k ∧ OwnI wr w.heap.size o (onK rs m k) ∧ Below w.heap.size w wr) (fun _ i _ => n - (intOf i).toNat)
  case atStart => exact ⟨0, by omega, rfl, OwnI.lit0 w, below_alloc _ _⟩
  case round =>
    obtain ⟨k, hk, rfl, hown, hB⟩ := hrel
    have hw := hB.size
    by_cases hlt : k < n
    · obtain ⟨hg, hc⟩ := HR.out (by omega)
      obtain ⟨h0, h1, h2⟩ := hc k hlt
      have c0 := (hB.cell (p := ⟨g, k * 3, none⟩) hg).trans h0
      have c1 := (hB.cell (p := ⟨g, k * 3 + 1, none⟩) hg).trans h1
      have c2 := (hB.cell (p := ⟨g, k * 3 + 2, none⟩) hg).trans h2
      have hgw : g < wr.heap.size := Nat.lt_of_lt_of_le hg hw
      have hT := HT.out k
      have hF := HF.out k
      have hlen := HL.out k
      obtain ⟨p, hp⟩ : ∃ p, rs.getD k rg0 = p := ⟨_, rfl⟩
      rw [hp] at c0 c1 c2 hT hF
      obtain ⟨x, f, t⟩ := p
      obtain ⟨b, hb⟩ : ∃ b, inB m f t = b := ⟨_, rfl⟩
      have HO := Lib.hid (hown.alloc (.cells #[.string ⟨x.toArray⟩, .int .i64 f, .int .i64 t] 53))
      have hLA := below_more hB hw (.cells #[.string ⟨x.toArray⟩, .int .i64 f, .int .i64 t] 53)
      clear hc h0 h1 h2 hp
      cases b with
      | false =>
        have HS := Lib.hid (hF hb)
        clear hT hF hown
        go_wp2_with fail
        refine (toBelowB (i_covers _ _ _ _ _) hb).mono ?_
        rintro e w3 ⟨rfl, hb3⟩
        have hown3 := HO.out.below hb3
        have L3 := hLA.trans (hb3.mono (by simp; omega))
        go_wp2_with fail
        go_roundw
        case rel => exact ⟨k + 1, by omega, by go_num, by rw [HS.out]; exact hown3, L3⟩
        case measure => simp [intOf]; omega
      | true =>
        have HS := Lib.hid (hT hb)
        clear hT hF hown
        go_wp2_with fail
        refine (toBelowB (i_covers _ _ _ _ _) hb).mono ?_
        rintro e w3 ⟨rfl, hb3⟩
        have hown3 := HO.out.below hb3
        have L3 := hLA.trans (hb3.mono (by simp; omega))
        have hw3 := L3.size
        go_wp2_with (at_builtin; refine wpList_appI rfl _ _ rfl _ _ _ _ _ rfl hown3 rfl (by omega) (by omega) ?_; intro v' w5 hown5 hg5)
        go_roundw
        case rel => exact ⟨k + 1, by omega, by go_num, by rw [HS.out]; exact hown5, hown3.below_grown L3 hg5 hw3⟩
        case measure => simp [intOf]; omega
    · obtain rfl : k = n := by omega
      have HO := Lib.hid hown; clear hown
      go_wp2_with fail
      go_ret
      exact ⟨_, rfl, HO.out, hB⟩
end Go.Proofs.YtoadkljaiegnlaaDoor
