/- AreReigns: the program's function returns what the plain function says. Conditions: lengths that a machine can hold; how the list lies. -/
import Derived.Test.YtmpgokijlikddaaGreatDoorRegs
namespace Go.Proofs.YtmpgokijlikddaaGreatDoor
open Go.RowKit
set_option maxRecDepth 100000 in
set_option maxHeartbeats 1000000 in
theorem i_AreReigns (g c : Nat) (rs : List RG) (w : World) (hR : RowR w g rs.length rs) (hn : rs.length ≤ 1048576) (hok : ∀ i, rgOk (rs.getD i rg0)) : Calls Tryz.prog 23 #[.slice (some ⟨g, 0, none⟩) rs.length c] w fun e w' => e = .returned (.bool (areB rs)) ∧ Below w.heap.size w w' := by
  have HR := Lib.hid hR; clear hR
  have HO := Lib.hid hok; clear hok
  have HN := Lib.hid (fun k (h1 : k < rs.length) (h2 : okAt rs k = false) => are_no h1 h2)
  have HY := Lib.hid (fun (h : ∀ k, k < rs.length → okAt rs k = true) => are_yes h)
  obtain ⟨n, hnn⟩ : ∃ n, rs.length = n := ⟨_, rfl⟩
  rw [hnn] at HR HN HY hn ⊢
  clear hnn
  go_enter Tryz.func23, Tryz.ntmps23
  go_wp2_with fail
  go_loopw [7] (fun i wr => ∃ k : Nat, k ≤ n ∧ i = .int .i64 k ∧ Hid (∀ j, j < k → okAt rs j = true) ∧ Below w.heap.size w wr) (fun i _ => n - (intOf i).toNat)
  case atStart => exact ⟨0, by omega, rfl, Lib.hid (fun j h => absurd h (Nat.not_lt_zero j)), Below.refl _ _⟩
  case round =>
    obtain ⟨k, hk, rfl, HA, hB⟩ := hrel
    by_cases hlt : k < n
    · obtain ⟨hg, hc⟩ := HR.out (by omega)
      have hcb : ∀ o, wr.cell? ⟨g, o, none⟩ = w.cell? ⟨g, o, none⟩ := fun o => hB.cell (p := ⟨g, o, none⟩) hg
      obtain ⟨h0, h1, h2⟩ := hc k hlt
      have o0 := (HO.out k).1
      have hrf := @okAt_reg rs k
      have c0 := (hcb _).trans h0
      have c1 := (hcb _).trans h1
      have c2 := (hcb _).trans h2
      have hgw : g < wr.heap.size := Nat.lt_of_lt_of_le hg hB.size
      have ht0 : k = 0 → regB (rs.getD k rg0).1 (rs.getD k rg0).2.1 (rs.getD k rg0).2.2 = true → okAt rs k = true := fun e h => by subst e; exact okAt_0 h
      obtain ⟨p, hp⟩ : ∃ p, rs.getD k rg0 = p := ⟨_, rfl⟩
      rw [hp] at c0 c1 c2 o0 hrf ht0
      obtain ⟨x, f, t⟩ := p
      have con := fun W => i_reg ⟨x.toArray⟩ f t W o0
      obtain ⟨b, hb⟩ : ∃ b, regB x f t = b := ⟨_, rfl⟩
      have con' := fun W => toBelowB (con W) hb
      have CON := Lib.hid con'
      have hLA := below_more hB hB.size (.cells #[.string ⟨x.toArray⟩, .int .i64 f, .int .i64 t] 90)
      have hBA := Blk.new wr 90 #[.string ⟨x.toArray⟩, .int .i64 f, .int .i64 t]
      have hzw := hB.size
      clear con con' h0 h1 h2
      cases b with
      | false =>
        have HF := Lib.hid (HN.out k hlt (hrf hb))
        clear hc hrf ht0 hcb hp
        go_wp2_with fail
        refine wp_region_any (by kernel_rfl) ?_
        change wpAny _ _ _ _ _ _ _ (World.drew _)
        refine wpAny_ready (rs := [0]) (by kernel_rfl) (by simp) ?_
        refine AllReady.cons rfl (fun K hK => ?_) AllReady.nil
        go_simp
        refine hK _ _ ?_
        clear hK K
        refine wpAny_ready (rs := [1]) (by kernel_rfl) (by simp) ?_
        refine AllReady.cons rfl (fun K hK => ?_) AllReady.nil
        go_simp
        go_wp2_with (go_at_call 88; refine (CON.out _).mono ?_; rintro e w3 ⟨rfl, hb3⟩; have hb3' := below_undrew hb3; have hL := hLA.trans (hb3'.mono (by simp; omega)))
        refine wpAny_take (i := 2) (v := _) rfl (by kernel_rfl) (by kernel_rfl) (by kernel_rfl) (fun _ _ _ h => h) (Or.inl ⟨by kernel_rfl, fun W => by first | rfl | go_simp⟩) ?_
        simp only [Act.put]
        refine wpAny_take (i := 3) (v := _) rfl (by kernel_rfl) (by kernel_rfl) (by kernel_rfl) (fun _ _ _ h => h) (Or.inl ⟨by kernel_rfl, fun W => by first | rfl | go_simp⟩) ?_
        simp only [Act.put]
        refine wpAny_take (i := 4) (v := undef) rfl (by kernel_rfl) (by kernel_rfl) (by kernel_rfl) (fun _ _ _ h => h) (Or.inr ⟨by kernel_rfl, rfl⟩) ?_
        simp only [Act.put]
        refine wpAny_take (i := 5) (v := undef) rfl (by kernel_rfl) (by kernel_rfl) (by kernel_rfl) (fun _ _ _ h => h) (Or.inr ⟨by kernel_rfl, rfl⟩) ?_
        simp only [Act.put]
        refine wpAny_take (i := 6) (v := undef) rfl (by kernel_rfl) (by kernel_rfl) (by kernel_rfl) (fun _ _ _ h => h) (Or.inr ⟨by kernel_rfl, rfl⟩) ?_
        simp only [Act.put]
        refine wpAny_take (i := 7) (v := undef) rfl (by kernel_rfl) (by kernel_rfl) (by kernel_rfl) (fun _ _ _ h => h) (Or.inr ⟨by kernel_rfl, rfl⟩) ?_
        simp only [Act.put]
        refine wpAny_take (i := 8) (v := undef) rfl (by kernel_rfl) (by kernel_rfl) (by kernel_rfl) (fun _ _ _ h => h) (Or.inr ⟨by kernel_rfl, rfl⟩) ?_
        simp only [Act.put]
        refine wpAny_take (i := 9) (v := undef) rfl (by kernel_rfl) (by kernel_rfl) (by kernel_rfl) (fun _ _ _ h => h) (Or.inr ⟨by kernel_rfl, rfl⟩) ?_
        simp only [Act.put]
        refine wpAny_take (i := 10) (v := undef) rfl (by kernel_rfl) (by kernel_rfl) (by kernel_rfl) (fun _ _ _ h => h) (Or.inr ⟨by kernel_rfl, rfl⟩) ?_
        simp only [Act.put]
        refine wpAny_take (i := 11) (v := undef) rfl (by kernel_rfl) (by kernel_rfl) (by kernel_rfl) (fun _ _ _ h => h) (Or.inr ⟨by kernel_rfl, rfl⟩) ?_
        simp only [Act.put]
        refine wpAny_take (i := 12) (v := undef) rfl (by kernel_rfl) (by kernel_rfl) (by kernel_rfl) (fun _ _ _ h => h) (Or.inr ⟨by kernel_rfl, rfl⟩) ?_
        simp only [Act.put]
        refine wpAny_take (i := 13) (v := undef) rfl (by kernel_rfl) (by kernel_rfl) (by kernel_rfl) (fun _ _ _ h => h) (Or.inr ⟨by kernel_rfl, rfl⟩) ?_
        simp only [Act.put]
        refine wpAny_take (i := 14) (v := undef) rfl (by kernel_rfl) (by kernel_rfl) (by kernel_rfl) (fun _ _ _ h => h) (Or.inr ⟨by kernel_rfl, rfl⟩) ?_
        simp only [Act.put]
        refine wpAny_take (i := 15) (v := undef) rfl (by kernel_rfl) (by kernel_rfl) (by kernel_rfl) (fun _ _ _ h => h) (Or.inr ⟨by kernel_rfl, rfl⟩) ?_
        simp only [Act.put]
        refine wpAny_take (i := 16) (v := undef) rfl (by kernel_rfl) (by kernel_rfl) (by kernel_rfl) (fun _ _ _ h => h) (Or.inr ⟨by kernel_rfl, rfl⟩) ?_
        simp only [Act.put]
        refine wpAny_ready (rs := [17]) (by kernel_rfl) (by simp) ?_
        refine AllReady.cons rfl (fun K hK => ?_) AllReady.nil
        go_simp
        refine hK _ _ ?_
        clear hK K
        refine wpAny_done (by kernel_rfl) ?_ _
        go_wp2_with fail
        go_ret
        exact ⟨by rw [HF.out]; rfl, hL⟩
      | true =>
        by_cases hk0 : k = 0
        · subst hk0
          have hok0 := Lib.hid (ht0 rfl hb)
          clear hc hrf ht0 hcb hp
          go_wp2_with fail
          refine wp_region_any (by kernel_rfl) ?_
          change wpAny _ _ _ _ _ _ _ (World.drew _)
          refine wpAny_ready (rs := [0]) (by kernel_rfl) (by simp) ?_
          refine AllReady.cons rfl (fun K hK => ?_) AllReady.nil
          go_simp
          refine hK _ _ ?_
          clear hK K
          refine wpAny_ready (rs := [1]) (by kernel_rfl) (by simp) ?_
          refine AllReady.cons rfl (fun K hK => ?_) AllReady.nil
          go_simp
          go_wp2_with (go_at_call 88; refine (CON.out _).mono ?_; rintro e w3 ⟨rfl, hb3⟩; have hb3' := below_undrew hb3; have hL := hLA.trans (hb3'.mono (by simp; omega)))
          refine wpAny_take (i := 2) (v := _) rfl (by kernel_rfl) (by kernel_rfl) (by kernel_rfl) (fun _ _ _ h => h) (Or.inl ⟨by kernel_rfl, fun W => by first | rfl | go_simp⟩) ?_
          simp only [Act.put]
          refine wpAny_take (i := 3) (v := _) rfl (by kernel_rfl) (by kernel_rfl) (by kernel_rfl) (fun _ _ _ h => h) (Or.inl ⟨by kernel_rfl, fun W => by first | rfl | go_simp⟩) ?_
          simp only [Act.put]
          refine wpAny_take (i := 4) (v := _) rfl (by kernel_rfl) (by kernel_rfl) (by kernel_rfl) (fun _ _ _ h => h) (Or.inl ⟨by kernel_rfl, fun W => by first | rfl | go_simp⟩) ?_
          simp only [Act.put]
          refine wpAny_take (i := 5) (v := .bool false) rfl (by kernel_rfl) (by kernel_rfl) (by kernel_rfl) (fun _ _ _ h => h) (Or.inl ⟨by kernel_rfl, fun W => by first | rfl | go_simp⟩) ?_
          simp only [Act.put]
          refine wpAny_take (i := 6) (v := .bool false) rfl (by kernel_rfl) (by kernel_rfl) (by kernel_rfl) (fun _ _ _ h => h) (Or.inl ⟨by kernel_rfl, fun W => by first | rfl | go_simp⟩) ?_
          simp only [Act.put]
          refine wpAny_take (i := 7) (v := undef) rfl (by kernel_rfl) (by kernel_rfl) (by kernel_rfl) (fun _ _ _ h => h) (Or.inr ⟨by kernel_rfl, rfl⟩) ?_
          simp only [Act.put]
          refine wpAny_take (i := 8) (v := undef) rfl (by kernel_rfl) (by kernel_rfl) (by kernel_rfl) (fun _ _ _ h => h) (Or.inr ⟨by kernel_rfl, rfl⟩) ?_
          simp only [Act.put]
          refine wpAny_take (i := 9) (v := undef) rfl (by kernel_rfl) (by kernel_rfl) (by kernel_rfl) (fun _ _ _ h => h) (Or.inr ⟨by kernel_rfl, rfl⟩) ?_
          simp only [Act.put]
          refine wpAny_take (i := 10) (v := undef) rfl (by kernel_rfl) (by kernel_rfl) (by kernel_rfl) (fun _ _ _ h => h) (Or.inr ⟨by kernel_rfl, rfl⟩) ?_
          simp only [Act.put]
          refine wpAny_take (i := 11) (v := undef) rfl (by kernel_rfl) (by kernel_rfl) (by kernel_rfl) (fun _ _ _ h => h) (Or.inr ⟨by kernel_rfl, rfl⟩) ?_
          simp only [Act.put]
          refine wpAny_take (i := 12) (v := undef) rfl (by kernel_rfl) (by kernel_rfl) (by kernel_rfl) (fun _ _ _ h => h) (Or.inr ⟨by kernel_rfl, rfl⟩) ?_
          simp only [Act.put]
          refine wpAny_take (i := 13) (v := undef) rfl (by kernel_rfl) (by kernel_rfl) (by kernel_rfl) (fun _ _ _ h => h) (Or.inr ⟨by kernel_rfl, rfl⟩) ?_
          simp only [Act.put]
          refine wpAny_take (i := 14) (v := undef) rfl (by kernel_rfl) (by kernel_rfl) (by kernel_rfl) (fun _ _ _ h => h) (Or.inr ⟨by kernel_rfl, rfl⟩) ?_
          simp only [Act.put]
          refine wpAny_take (i := 15) (v := undef) rfl (by kernel_rfl) (by kernel_rfl) (by kernel_rfl) (fun _ _ _ h => h) (Or.inr ⟨by kernel_rfl, rfl⟩) ?_
          simp only [Act.put]
          refine wpAny_ready (rs := [16]) (by kernel_rfl) (by simp) ?_
          refine AllReady.cons rfl (fun K hK => ?_) AllReady.nil
          go_simp
          refine hK _ _ ?_
          clear hK K
          refine wpAny_ready (rs := [17]) (by kernel_rfl) (by simp) ?_
          refine AllReady.cons rfl (fun K hK => ?_) AllReady.nil
          go_simp
          refine hK _ _ ?_
          clear hK K
          refine wpAny_done (by kernel_rfl) ?_ _
          go_wp2_with fail
          go_roundw
          case rel => exact ⟨1, by omega, by go_num, Lib.hid (by intro j hj; have hj0 : j = 0 := (by omega); subst hj0; exact hok0.out), hL⟩
          case measure => simp [intOf]; omega
        · obtain ⟨j, hj⟩ : ∃ j, k = j + 1 := ⟨k - 1, by omega⟩
          obtain ⟨g0, g1, g2⟩ := hc j (by omega)
          have e1 := (hcb _).trans g1
          have hs := @okAt_s rs j
          obtain ⟨p', hp'⟩ : ∃ p', rs.getD j rg0 = p' := ⟨_, rfl⟩
          obtain ⟨x', f', t'⟩ := p'
          rw [← hj, hp, hp'] at hs
          rw [hp'] at e1
          have hs' := hs hb
          have K3 := Lib.hid e1
          have hsub : IntKind.i64.wrap ((k : Int) - 1) = (j : Int) := by rw [IntWalk.i64_in _ (by omega)]; omega
          have hjn : j < n := by omega
          have hpos : 0 < k := by omega
          have hpos2 : decide (0 < k) = true := by simp [hpos]
          have hpos3 : (0 : Int) < (k : Int) := by omega
          have HJ := Lib.hid hj
          clear hj hk0
          by_cases hlt2 : f < f'
          · have hsf : okAt rs k = false := by rw [hs']; simp [hlt2]
            have HF := Lib.hid (HN.out _ hlt hsf)
            have hd : decide (f < f') = true := by simp [hlt2]
            clear hc hrf ht0 hcb hp hp' g0 g1 g2 hs hs' hsf
            go_wp2_with fail
            go_region_held3 (fun W => W.cell? ⟨wr.heap.size, 0, none⟩ = some (.string ⟨x.toArray⟩) ∧ W.cell? ⟨wr.heap.size, 1, none⟩ = some (.int .i64 f) ∧ W.cell? ⟨wr.heap.size, 2, none⟩ = some (.int .i64 t) ∧ W.cell? ⟨g, j * 3 + 1, none⟩ = some (.int .i64 f'))
              (first | go_keep | exact ⟨hBA.c0, hBA.c1, hBA.c2, ((below_alloc wr (.cells #[.string ⟨x.toArray⟩, .int .i64 f, .int .i64 t] 90)).cell (p := ⟨g, j * 3 + 1, none⟩) hgw).trans K3.out⟩ | exact ⟨d0, d1, d2, d3⟩)
              (first | (go_at_call 88; refine (CON.out _).mono ?_; rintro e w3 ⟨rfl, hb3⟩; have hb3' := below_undrew hb3; have hL := hLA.trans (hb3'.mono (by simp; omega)); have hB3 := hBA.below hb3' (by simp); have d0 := hB3.c0; have d1 := hB3.c1; have d2 := hB3.c2; have d3 := (hb3'.cell (p := ⟨g, j * 3 + 1, none⟩) (by simp; omega)).trans (((below_alloc wr (.cells #[.string ⟨x.toArray⟩, .int .i64 f, .int .i64 t] 90)).cell (p := ⟨g, j * 3 + 1, none⟩) hgw).trans K3.out)))
            go_wp2_with fail
            go_ret
            exact ⟨by rw [HF.out]; rfl, hL⟩
          · have hsf : okAt rs k = true := by rw [hs']; simp [hlt2]
            have hlt3 : f' ≤ f := by omega
            have hd : decide (f < f') = false := by simp [hlt3]
            have HSF := Lib.hid hsf
            clear hc hrf ht0 hcb hp hp' g0 g1 g2 hs hs' hsf hlt2
            go_wp2_with fail
            go_region_held3 (fun W => W.cell? ⟨wr.heap.size, 0, none⟩ = some (.string ⟨x.toArray⟩) ∧ W.cell? ⟨wr.heap.size, 1, none⟩ = some (.int .i64 f) ∧ W.cell? ⟨wr.heap.size, 2, none⟩ = some (.int .i64 t) ∧ W.cell? ⟨g, j * 3 + 1, none⟩ = some (.int .i64 f'))
              (first | go_keep | exact ⟨hBA.c0, hBA.c1, hBA.c2, ((below_alloc wr (.cells #[.string ⟨x.toArray⟩, .int .i64 f, .int .i64 t] 90)).cell (p := ⟨g, j * 3 + 1, none⟩) hgw).trans K3.out⟩ | exact ⟨d0, d1, d2, d3⟩)
              (first | (go_at_call 88; refine (CON.out _).mono ?_; rintro e w3 ⟨rfl, hb3⟩; have hb3' := below_undrew hb3; have hL := hLA.trans (hb3'.mono (by simp; omega)); have hB3 := hBA.below hb3' (by simp); have d0 := hB3.c0; have d1 := hB3.c1; have d2 := hB3.c2; have d3 := (hb3'.cell (p := ⟨g, j * 3 + 1, none⟩) (by simp; omega)).trans (((below_alloc wr (.cells #[.string ⟨x.toArray⟩, .int .i64 f, .int .i64 t] 90)).cell (p := ⟨g, j * 3 + 1, none⟩) hgw).trans K3.out)))
            go_wp2_with fail
            go_roundw
            case rel => exact ⟨k + 1, by omega, by go_num, Lib.hid (by intro i hi; by_cases hik : i = k; · subst hik; exact HSF.out
                                                                       · exact HA.out i (by omega)), hL⟩
            case measure => simp [intOf]; omega
    · obtain rfl : k = n := by omega
      have HA2 := Lib.hid (HY.out HA.out)
      by_cases h30 : k ≤ 30
      · have hd : decide ((k : Int) ≤ 30) = true := by simp; omega
        have hd2 : decide (k ≤ 30) = true := by simp [h30]
        rw [hd2] at HA2
        go_wp2_with fail
        go_ret
        exact ⟨by rw [HA2.out]; rfl, hB⟩
      · have hd : decide ((k : Int) ≤ 30) = false := by simp; omega
        have hd2 : decide (k ≤ 30) = false := by simp [h30]
        rw [hd2] at HA2
        go_wp2_with fail
        go_ret
        exact ⟨by rw [HA2.out]; rfl, hB⟩
end Go.Proofs.YtmpgokijlikddaaGreatDoor
