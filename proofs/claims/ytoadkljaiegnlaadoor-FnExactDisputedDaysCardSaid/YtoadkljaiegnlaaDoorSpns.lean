/- The spans of a list of reigns, by the program. Conditions: lengths that a machine can hold; how the list lies. -/
import Derived.Test.YtoadkljaiegnlaaDoorKingP
import Derived.IntWalk
namespace Go.Proofs.YtoadkljaiegnlaaDoor
open Go.RowKit
set_option maxRecDepth 100000 in
set_option maxHeartbeats 1000000 in
theorem i_spns (g c : Nat) (rs : List RG) (w : World) (hR : RowR w g rs.length rs) (hn : rs.length ≤ 1000) : Calls Tryd.prog 53 #[.slice (some ⟨g, 0, none⟩) rs.length c] w fun e w' => ∃ v, e = .returned v ∧ OwnP w' w.heap.size v (spn rs) ∧ Below w.heap.size w w' := by
  have HR := Lib.hid hR
  have HS := Lib.hid (fun k h => spn_snoc rs k h)
  have HE := Lib.hid (show (spn rs).take rs.length = spn rs from by rw [← spn_len rs, List.take_length])
  have HL := Lib.hid (fun k => (show ((spn rs).take k).length ≤ k from by rw [List.length_take]; omega))
  clear hR
  obtain ⟨n, hnn⟩ : ∃ n, rs.length = n := ⟨_, rfl⟩
  rw [hnn] at HR hn HS HE ⊢
  clear hnn
  go_enter Tryd.func53, Tryd.ntmps53
  go_wp2_with fail
  go_loopw [3, 9] (fun o i wr => ∃ k : Nat, k ≤ n ∧ i = .int .i64 k ∧ OwnP wr w.heap.size o ((spn rs).take k) ∧ Below w.heap.size w wr) (fun _ i _ => n - (intOf i).toNat)
  case atStart => exact ⟨0, by omega, rfl, OwnP.lit0 w, below_alloc _ _⟩
  case round =>
    obtain ⟨k, hk, rfl, V, L⟩ := hrel
    have hw := L.size
    by_cases hlt : k < n
    · obtain ⟨hg, hc⟩ := HR.out (by omega)
      obtain ⟨h0, h1, h2⟩ := hc k hlt
      have c0 := (L.cell (p := ⟨g, k * 3, none⟩) hg).trans h0
      have c1 := (L.cell (p := ⟨g, k * 3 + 1, none⟩) hg).trans h1
      have c2 := (L.cell (p := ⟨g, k * 3 + 2, none⟩) hg).trans h2
      have hgw : g < wr.heap.size := Nat.lt_of_lt_of_le hg hw
      have hnext := HS.out k hlt
      have hlen := HL.out k
      obtain ⟨p, hp⟩ : ∃ p, rs.getD k rg0 = p := ⟨_, rfl⟩
      rw [hp] at c0 c1 c2 hnext
      obtain ⟨x, f, t⟩ := p
      have HN := Lib.hid hnext
      have V1 := V.alloc (.cells #[.string ⟨x.toArray⟩, .int .i64 f, .int .i64 t] 53)
      have L1 := below_more L hw (.cells #[.string ⟨x.toArray⟩, .int .i64 f, .int .i64 t] 53)
      have hL1 := L1.size
      clear hc h0 h1 h2 hp hnext
      dsimp only at c0 c1 c2
      obtain ⟨D, hD⟩ : ∃ D, (spn rs).take k = D := ⟨_, rfl⟩
      rw [hD] at V1 hlen HN
      clear V hD
      go_wp2_with (at_builtin; refine wpList_appP rfl _ _ rfl _ _ _ _ _ _ rfl V1 _ (by simp) rfl (by omega) hL1 ?_; intro v2 w3 V2 hg2)
      go_roundw
      case rel => exact ⟨k + 1, by omega, by go_num, by rw [HN.out]; exact V2, V1.below_grown L1 hg2 hL1⟩
      case measure => simp [intOf]; omega
    · obtain rfl : k = n := by omega
      rw [HE.out] at V
      go_wp2_with fail
      go_ret
      exact ⟨_, rfl, V, L⟩
end Go.Proofs.YtoadkljaiegnlaaDoor
