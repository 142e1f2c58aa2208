/- Lists of reigns: their size, their copy, the test; the program's and the reference's functions return what the plain functions say. Conditions: lengths that a machine can hold; how the list lies. -/
import Derived.Test.YtmpgokijlikddaaGreatDoorMem
import Derived.Test.YtmpgokijlikddaaGreatDoorReign
import Derived.Test.YtmpgokijlikddaaGreatDoorRegF
import Derived.Laws.MakeOwn
import Derived.Deep.RegionHeld3
namespace Go.Proofs.YtmpgokijlikddaaGreatDoor
open Go.RowKit
abbrev rg0 : RG := ([], 0, 0)
/-- how reigns lie in a block from its first cell on -/
def RowR (w : World) (g n : Nat) (rs : List RG) : Prop := 0 < n → g < w.heap.size ∧ ∀ i, i < n → w.cell? ⟨g, i * 3, none⟩ = some (.string ⟨(rs.getD i rg0).1.toArray⟩) ∧
  w.cell? ⟨g, i * 3 + 1, none⟩ = some (.int .i64 (rs.getD i rg0).2.1) ∧ w.cell? ⟨g, i * 3 + 2, none⟩ = some (.int .i64 (rs.getD i rg0).2.2)
theorem RowR.below {w w' : World} {B g n : Nat} {rs : List RG} (h : RowR w g n rs) (hb : Below B w w') (hg : g < B) : RowR w' g n rs := fun hn => by
  obtain ⟨hlt, hc⟩ := h hn
  refine ⟨Nat.lt_of_lt_of_le hlt hb.size, fun i hi => ?_⟩
  obtain ⟨h0, h1, h2⟩ := hc i hi
  exact ⟨(hb.cell (p := ⟨g, _, none⟩) hg).trans h0, (hb.cell (p := ⟨g, _, none⟩) hg).trans h1, (hb.cell (p := ⟨g, _, none⟩) hg).trans h2⟩
/-- a block that holds the first k of the reigns -/
def PutR (w : World) (g n k : Nat) (rs : List RG) : Prop := ∃ cs, Blk w g 90 cs ∧ cs.size = n * 3 ∧ ∀ i, i < k → cs[i * 3]? = some (.string ⟨(rs.getD i rg0).1.toArray⟩) ∧
  cs[i * 3 + 1]? = some (.int .i64 (rs.getD i rg0).2.1) ∧ cs[i * 3 + 2]? = some (.int .i64 (rs.getD i rg0).2.2)
theorem PutR.row {w : World} {g n : Nat} {rs : List RG} (h : PutR w g n n rs) : RowR w g n rs := fun _ => by
  obtain ⟨cs, hb, _, hc⟩ := h
  exact ⟨hb.lt, fun i hi => by
    obtain ⟨h0, h1, h2⟩ := hc i hi
    exact ⟨(hb.cell _).trans h0, (hb.cell _).trans h1, (hb.cell _).trans h2⟩⟩
theorem PutR.below {w w' : World} {B g n k : Nat} {rs : List RG} (h : PutR w g n k rs) (hb : Below B w w') (hg : g < B) : PutR w' g n k rs := by
  obtain ⟨cs, hB, hs, hc⟩ := h
  exact ⟨cs, hB.below hb hg, hs, hc⟩
theorem PutR.step {w : World} {g n k : Nat} {rs : List RG} (h : PutR w g n k rs) (hk : k < n) :
    PutR (((w.setCell ⟨g, k * 3, none⟩ (.string ⟨(rs.getD k rg0).1.toArray⟩)).setCell ⟨g, k * 3 + 1, none⟩ (.int .i64 (rs.getD k rg0).2.1)).setCell ⟨g, k * 3 + 2, none⟩ (.int .i64 (rs.getD k rg0).2.2)) g n (k + 1) rs := by
  obtain ⟨cs, hB, hs, hc⟩ := h
  refine ⟨_, ((hB.set_ _ _).set_ _ _).set_ _ _, by simp [hs], fun i hi => ?_⟩
  simp only [Array.getElem?_setIfInBounds, Array.size_setIfInBounds, hs]
  by_cases he : i = k
  · subst he
    refine ⟨?_, ?_, ?_⟩
    · rw [if_neg (by omega), if_neg (by omega), if_pos rfl, if_pos (by omega)]
    · rw [if_neg (by omega), if_pos rfl, if_pos (by omega)]
    · rw [if_pos rfl, if_pos (by omega)]
  · obtain ⟨h0, h1, h2⟩ := hc i (by omega)
    refine ⟨?_, ?_, ?_⟩
    · rw [if_neg (by omega), if_neg (by omega), if_neg (by omega)]; exact h0
    · rw [if_neg (by omega), if_neg (by omega), if_neg (by omega)]; exact h1
    · rw [if_neg (by omega), if_neg (by omega), if_neg (by omega)]; exact h2
def rsz (rs : List RG) (k : Nat) : Int := ((rs.take k).map fun r => (r.1.length : Int)).sum
def okAt (rs : List RG) (i : Nat) : Bool := regB (rs.getD i rg0).1 (rs.getD i rg0).2.1 (rs.getD i rg0).2.2 && !(decide (0 < i) && decide ((rs.getD i rg0).2.1 < (rs.getD (i - 1) rg0).2.1))
/-- the list holds reigns, in order of their begin, and not too many -/
def areB (rs : List RG) : Bool := (List.range rs.length).all (okAt rs) && decide (rs.length ≤ 30)
theorem are_no {rs : List RG} {k : Nat} (hk : k < rs.length) (h : okAt rs k = false) : areB rs = false := by
  unfold areB
  have : (List.range rs.length).all (okAt rs) = false := by
    rw [List.all_eq_false]; exact ⟨k, List.mem_range.2 hk, by simp [h]⟩
  rw [this]; rfl
theorem are_yes {rs : List RG} (h : ∀ k, k < rs.length → okAt rs k = true) : areB rs = decide (rs.length ≤ 30) := by
  unfold areB
  have : (List.range rs.length).all (okAt rs) = true := by
    rw [List.all_eq_true]; intro k hk; exact h k (List.mem_range.1 hk)
  rw [this]; rfl
theorem okAt_reg {rs : List RG} {k : Nat} (h : regB (rs.getD k rg0).1 (rs.getD k rg0).2.1 (rs.getD k rg0).2.2 = false) : okAt rs k = false := by unfold okAt; rw [h]; rfl
theorem okAt_0 {rs : List RG} (h : regB (rs.getD 0 rg0).1 (rs.getD 0 rg0).2.1 (rs.getD 0 rg0).2.2 = true) : okAt rs 0 = true := by unfold okAt; rw [h]; rfl
theorem okAt_s {rs : List RG} {k : Nat} (h : regB (rs.getD (k + 1) rg0).1 (rs.getD (k + 1) rg0).2.1 (rs.getD (k + 1) rg0).2.2 = true) : okAt rs (k + 1) = !decide ((rs.getD (k + 1) rg0).2.1 < (rs.getD k rg0).2.1) := by
  unfold okAt; rw [h]; simp
set_option maxRecDepth 100000 in
set_option maxHeartbeats 1000000 in
theorem s_AreReigns (g c : Nat) (rs : List RG) (w : World) (hR : RowR w g rs.length rs) (hn : rs.length ≤ 1048576) (hok : ∀ i, rgOk (rs.getD i rg0)) : Calls Tryz.prog 24 #[.slice (some ⟨g, 0, none⟩) rs.length c] w fun e w' => e = .returned (.bool (areB rs)) ∧ Below w.heap.size w w' := by
  have HR := Lib.hid hR; clear hR
  have HO := Lib.hid hok; clear hok
  have HN := Lib.hid (fun k (h1 : k < rs.length) (h2 : okAt rs k = false) => are_no h1 h2)
  have HY := Lib.hid (fun (h : ∀ k, k < rs.length → okAt rs k = true) => are_yes h)
  obtain ⟨n, hnn⟩ : ∃ n, rs.length = n := ⟨_, rfl⟩
  rw [hnn] at HR HN HY hn ⊢
  clear hnn
  go_enter Tryz.func24, Tryz.ntmps24
  go_wp2_with fail
  go_loopw [3] (fun i wr => ∃ k : Nat, k ≤ n ∧ i = .int .i64 k ∧ Hid (∀ j, j < k → okAt rs j = true) ∧ Below w.heap.size w wr) (fun i _ => n - (intOf i).toNat)
  case atStart => exact ⟨0, by omega, rfl, Lib.hid (fun j h => absurd h (Nat.not_lt_zero j)), Below.refl _ _⟩
  case round =>
    obtain ⟨k, hk, rfl, HA, hB⟩ := hrel
    by_cases hlt : k < n
    · obtain ⟨hg, hc⟩ := HR.out (by omega)
      have hcb : ∀ o, wr.cell? ⟨g, o, none⟩ = w.cell? ⟨g, o, none⟩ := fun o => hB.cell (p := ⟨g, o, none⟩) hg
      obtain ⟨h0, h1, h2⟩ := hc k hlt
      have o0 := (HO.out k).1
      have hrf := @okAt_reg rs k
      have c0 := (hcb _).trans h0
      have c1 := (hcb _).trans h1
      have c2 := (hcb _).trans h2
      have hgw : g < wr.heap.size := Nat.lt_of_lt_of_le hg hB.size
      have ht0 : k = 0 → regB (rs.getD k rg0).1 (rs.getD k rg0).2.1 (rs.getD k rg0).2.2 = true → okAt rs k = true := fun e h => by subst e; exact okAt_0 h
      obtain ⟨p, hp⟩ : ∃ p, rs.getD k rg0 = p := ⟨_, rfl⟩
      rw [hp] at c0 c1 c2 o0 hrf ht0
      obtain ⟨x, f, t⟩ := p
      have con := fun W => s_reg ⟨x.toArray⟩ f t W o0
      obtain ⟨b, hb⟩ : ∃ b, regB x f t = b := ⟨_, rfl⟩
      have con' := fun W => toBelowB (con W) hb
      have CON := Lib.hid con'
      clear con con' h0 h1 h2
      cases b with
      | false =>
        have HF := Lib.hid (HN.out k hlt (hrf hb))
        clear hc hrf ht0 hcb hp
        go_wp2_with fail
        refine wp_region_any (by kernel_rfl) ?_
        change wpAny _ _ _ _ _ _ _ (World.drew _)
        refine wpAny_take (i := 0) (v := _) rfl (by kernel_rfl) (by kernel_rfl) (by kernel_rfl) (fun _ _ _ h => h) (Or.inl ⟨by kernel_rfl, fun W => by first | rfl | go_simp⟩) ?_
        simp only [Act.put]
        refine wpAny_take (i := 1) (v := _) rfl (by kernel_rfl) (by kernel_rfl) (by kernel_rfl) (fun _ _ _ h => h) (Or.inl ⟨by kernel_rfl, fun W => by first | rfl | go_simp⟩) ?_
        simp only [Act.put]
        refine wpAny_take (i := 2) (v := .pointer (some ⟨g, k * 3, none⟩)) rfl (by kernel_rfl) (by kernel_rfl) (by kernel_rfl) (fun _ _ _ h => h) (Or.inl ⟨by kernel_rfl, fun W => by first | rfl | go_simp⟩) ?_
        simp only [Act.put]
        refine wpAny_ready (rs := [3]) (by kernel_rfl) (by simp) ?_
        refine AllReady.cons rfl (fun K hK => ?_) AllReady.nil
        go_simp
        refine hK _ _ ?_
        clear hK K
        refine wpAny_ready (rs := [4]) (by kernel_rfl) (by simp) ?_
        refine AllReady.cons rfl (fun K hK => ?_) AllReady.nil
        go_simp
        go_wp2_with (go_at_call 89; refine (CON.out _).mono ?_; rintro e w3 ⟨rfl, hb3⟩; have hb3' := below_undrew hb3; have hL := hB.trans (hb3'.mono hB.size))
        refine wpAny_take (i := 5) (v := _) rfl (by kernel_rfl) (by kernel_rfl) (by kernel_rfl) (fun _ _ _ h => h) (Or.inl ⟨by kernel_rfl, fun W => by first | rfl | go_simp⟩) ?_
        simp only [Act.put]
        refine wpAny_take (i := 6) (v := _) rfl (by kernel_rfl) (by kernel_rfl) (by kernel_rfl) (fun _ _ _ h => h) (Or.inl ⟨by kernel_rfl, fun W => by first | rfl | go_simp⟩) ?_
        simp only [Act.put]
        refine wpAny_take (i := 7) (v := undef) rfl (by kernel_rfl) (by kernel_rfl) (by kernel_rfl) (fun _ _ _ h => h) (Or.inr ⟨by kernel_rfl, rfl⟩) ?_
        simp only [Act.put]
        refine wpAny_take (i := 8) (v := undef) rfl (by kernel_rfl) (by kernel_rfl) (by kernel_rfl) (fun _ _ _ h => h) (Or.inr ⟨by kernel_rfl, rfl⟩) ?_
        simp only [Act.put]
        refine wpAny_take (i := 9) (v := undef) rfl (by kernel_rfl) (by kernel_rfl) (by kernel_rfl) (fun _ _ _ h => h) (Or.inr ⟨by kernel_rfl, rfl⟩) ?_
        simp only [Act.put]
        refine wpAny_take (i := 10) (v := undef) rfl (by kernel_rfl) (by kernel_rfl) (by kernel_rfl) (fun _ _ _ h => h) (Or.inr ⟨by kernel_rfl, rfl⟩) ?_
        simp only [Act.put]
        refine wpAny_take (i := 11) (v := undef) rfl (by kernel_rfl) (by kernel_rfl) (by kernel_rfl) (fun _ _ _ h => h) (Or.inr ⟨by kernel_rfl, rfl⟩) ?_
        simp only [Act.put]
        refine wpAny_take (i := 12) (v := undef) rfl (by kernel_rfl) (by kernel_rfl) (by kernel_rfl) (fun _ _ _ h => h) (Or.inr ⟨by kernel_rfl, rfl⟩) ?_
        simp only [Act.put]
        refine wpAny_take (i := 13) (v := undef) rfl (by kernel_rfl) (by kernel_rfl) (by kernel_rfl) (fun _ _ _ h => h) (Or.inr ⟨by kernel_rfl, rfl⟩) ?_
        simp only [Act.put]
        refine wpAny_take (i := 14) (v := undef) rfl (by kernel_rfl) (by kernel_rfl) (by kernel_rfl) (fun _ _ _ h => h) (Or.inr ⟨by kernel_rfl, rfl⟩) ?_
        simp only [Act.put]
        refine wpAny_take (i := 15) (v := undef) rfl (by kernel_rfl) (by kernel_rfl) (by kernel_rfl) (fun _ _ _ h => h) (Or.inr ⟨by kernel_rfl, rfl⟩) ?_
        simp only [Act.put]
        refine wpAny_take (i := 16) (v := undef) rfl (by kernel_rfl) (by kernel_rfl) (by kernel_rfl) (fun _ _ _ h => h) (Or.inr ⟨by kernel_rfl, rfl⟩) ?_
        simp only [Act.put]
        refine wpAny_take (i := 17) (v := undef) rfl (by kernel_rfl) (by kernel_rfl) (by kernel_rfl) (fun _ _ _ h => h) (Or.inr ⟨by kernel_rfl, rfl⟩) ?_
        simp only [Act.put]
        refine wpAny_take (i := 18) (v := undef) rfl (by kernel_rfl) (by kernel_rfl) (by kernel_rfl) (fun _ _ _ h => h) (Or.inr ⟨by kernel_rfl, rfl⟩) ?_
        simp only [Act.put]
        refine wpAny_take (i := 19) (v := undef) rfl (by kernel_rfl) (by kernel_rfl) (by kernel_rfl) (fun _ _ _ h => h) (Or.inr ⟨by kernel_rfl, rfl⟩) ?_
        simp only [Act.put]
        refine wpAny_take (i := 20) (v := undef) rfl (by kernel_rfl) (by kernel_rfl) (by kernel_rfl) (fun _ _ _ h => h) (Or.inr ⟨by kernel_rfl, rfl⟩) ?_
        simp only [Act.put]
        refine wpAny_take (i := 21) (v := undef) rfl (by kernel_rfl) (by kernel_rfl) (by kernel_rfl) (fun _ _ _ h => h) (Or.inr ⟨by kernel_rfl, rfl⟩) ?_
        simp only [Act.put]
        refine wpAny_take (i := 22) (v := undef) rfl (by kernel_rfl) (by kernel_rfl) (by kernel_rfl) (fun _ _ _ h => h) (Or.inr ⟨by kernel_rfl, rfl⟩) ?_
        simp only [Act.put]
        refine wpAny_ready (rs := [23]) (by kernel_rfl) (by simp) ?_
        refine AllReady.cons rfl (fun K hK => ?_) AllReady.nil
        go_simp
        refine hK _ _ ?_
        clear hK K
        refine wpAny_done (by kernel_rfl) ?_ _
        go_wp2_with fail
        go_ret
        exact ⟨by rw [HF.out]; rfl, hL⟩
      | true =>
        by_cases hk0 : k = 0
        · subst hk0
          have hok0 := Lib.hid (ht0 rfl hb)
          clear hc hrf ht0 hcb hp
          go_wp2_with fail
          refine wp_region_any (by kernel_rfl) ?_
          change wpAny _ _ _ _ _ _ _ (World.drew _)
          refine wpAny_take (i := 0) (v := _) rfl (by kernel_rfl) (by kernel_rfl) (by kernel_rfl) (fun _ _ _ h => h) (Or.inl ⟨by kernel_rfl, fun W => by first | rfl | go_simp⟩) ?_
          simp only [Act.put]
          refine wpAny_take (i := 1) (v := _) rfl (by kernel_rfl) (by kernel_rfl) (by kernel_rfl) (fun _ _ _ h => h) (Or.inl ⟨by kernel_rfl, fun W => by first | rfl | go_simp⟩) ?_
          simp only [Act.put]
          refine wpAny_take (i := 2) (v := .pointer (some ⟨g, 0, none⟩)) rfl (by kernel_rfl) (by kernel_rfl) (by kernel_rfl) (fun _ _ _ h => h) (Or.inl ⟨by kernel_rfl, fun W => by first | rfl | go_simp⟩) ?_
          simp only [Act.put]
          refine wpAny_ready (rs := [3]) (by kernel_rfl) (by simp) ?_
          refine AllReady.cons rfl (fun K hK => ?_) AllReady.nil
          go_simp
          refine hK _ _ ?_
          clear hK K
          refine wpAny_ready (rs := [4]) (by kernel_rfl) (by simp) ?_
          refine AllReady.cons rfl (fun K hK => ?_) AllReady.nil
          go_simp
          go_wp2_with (go_at_call 89; refine (CON.out _).mono ?_; rintro e w3 ⟨rfl, hb3⟩; have hb3' := below_undrew hb3; have hL := hB.trans (hb3'.mono hB.size))
          refine wpAny_take (i := 5) (v := _) rfl (by kernel_rfl) (by kernel_rfl) (by kernel_rfl) (fun _ _ _ h => h) (Or.inl ⟨by kernel_rfl, fun W => by first | rfl | go_simp⟩) ?_
          simp only [Act.put]
          refine wpAny_take (i := 6) (v := _) rfl (by kernel_rfl) (by kernel_rfl) (by kernel_rfl) (fun _ _ _ h => h) (Or.inl ⟨by kernel_rfl, fun W => by first | rfl | go_simp⟩) ?_
          simp only [Act.put]
          refine wpAny_take (i := 7) (v := _) rfl (by kernel_rfl) (by kernel_rfl) (by kernel_rfl) (fun _ _ _ h => h) (Or.inl ⟨by kernel_rfl, fun W => by first | rfl | go_simp⟩) ?_
          simp only [Act.put]
          refine wpAny_take (i := 8) (v := .bool false) rfl (by kernel_rfl) (by kernel_rfl) (by kernel_rfl) (fun _ _ _ h => h) (Or.inl ⟨by kernel_rfl, fun W => by first | rfl | go_simp⟩) ?_
          simp only [Act.put]
          refine wpAny_take (i := 9) (v := .bool false) rfl (by kernel_rfl) (by kernel_rfl) (by kernel_rfl) (fun _ _ _ h => h) (Or.inl ⟨by kernel_rfl, fun W => by first | rfl | go_simp⟩) ?_
          simp only [Act.put]
          refine wpAny_take (i := 10) (v := undef) rfl (by kernel_rfl) (by kernel_rfl) (by kernel_rfl) (fun _ _ _ h => h) (Or.inr ⟨by kernel_rfl, rfl⟩) ?_
          simp only [Act.put]
          refine wpAny_take (i := 11) (v := undef) rfl (by kernel_rfl) (by kernel_rfl) (by kernel_rfl) (fun _ _ _ h => h) (Or.inr ⟨by kernel_rfl, rfl⟩) ?_
          simp only [Act.put]
          refine wpAny_take (i := 12) (v := undef) rfl (by kernel_rfl) (by kernel_rfl) (by kernel_rfl) (fun _ _ _ h => h) (Or.inr ⟨by kernel_rfl, rfl⟩) ?_
          simp only [Act.put]
          refine wpAny_take (i := 13) (v := undef) rfl (by kernel_rfl) (by kernel_rfl) (by kernel_rfl) (fun _ _ _ h => h) (Or.inr ⟨by kernel_rfl, rfl⟩) ?_
          simp only [Act.put]
          refine wpAny_take (i := 14) (v := undef) rfl (by kernel_rfl) (by kernel_rfl) (by kernel_rfl) (fun _ _ _ h => h) (Or.inr ⟨by kernel_rfl, rfl⟩) ?_
          simp only [Act.put]
          refine wpAny_take (i := 15) (v := undef) rfl (by kernel_rfl) (by kernel_rfl) (by kernel_rfl) (fun _ _ _ h => h) (Or.inr ⟨by kernel_rfl, rfl⟩) ?_
          simp only [Act.put]
          refine wpAny_take (i := 16) (v := undef) rfl (by kernel_rfl) (by kernel_rfl) (by kernel_rfl) (fun _ _ _ h => h) (Or.inr ⟨by kernel_rfl, rfl⟩) ?_
          simp only [Act.put]
          refine wpAny_take (i := 17) (v := undef) rfl (by kernel_rfl) (by kernel_rfl) (by kernel_rfl) (fun _ _ _ h => h) (Or.inr ⟨by kernel_rfl, rfl⟩) ?_
          simp only [Act.put]
          refine wpAny_take (i := 18) (v := undef) rfl (by kernel_rfl) (by kernel_rfl) (by kernel_rfl) (fun _ _ _ h => h) (Or.inr ⟨by kernel_rfl, rfl⟩) ?_
          simp only [Act.put]
          refine wpAny_take (i := 19) (v := undef) rfl (by kernel_rfl) (by kernel_rfl) (by kernel_rfl) (fun _ _ _ h => h) (Or.inr ⟨by kernel_rfl, rfl⟩) ?_
          simp only [Act.put]
          refine wpAny_take (i := 20) (v := undef) rfl (by kernel_rfl) (by kernel_rfl) (by kernel_rfl) (fun _ _ _ h => h) (Or.inr ⟨by kernel_rfl, rfl⟩) ?_
          simp only [Act.put]
          refine wpAny_take (i := 21) (v := undef) rfl (by kernel_rfl) (by kernel_rfl) (by kernel_rfl) (fun _ _ _ h => h) (Or.inr ⟨by kernel_rfl, rfl⟩) ?_
          simp only [Act.put]
          refine wpAny_ready (rs := [22]) (by kernel_rfl) (by simp) ?_
          refine AllReady.cons rfl (fun K hK => ?_) AllReady.nil
          go_simp
          refine hK _ _ ?_
          clear hK K
          refine wpAny_ready (rs := [23]) (by kernel_rfl) (by simp) ?_
          refine AllReady.cons rfl (fun K hK => ?_) AllReady.nil
          go_simp
          refine hK _ _ ?_
          clear hK K
          refine wpAny_done (by kernel_rfl) ?_ _
          go_wp2_with fail
          go_roundw
          case rel => exact ⟨1, by omega, by go_num, Lib.hid (by intro j hj; have hj0 : j = 0 := (by omega); subst hj0; exact hok0.out), hL⟩
          case measure => simp [intOf]; omega
        · obtain ⟨j, hj⟩ : ∃ j, k = j + 1 := ⟨k - 1, by omega⟩
          obtain ⟨g0, g1, g2⟩ := hc j (by omega)
          have e1 := (hcb _).trans g1
          have hs := @okAt_s rs j
          obtain ⟨p', hp'⟩ : ∃ p', rs.getD j rg0 = p' := ⟨_, rfl⟩
          obtain ⟨x', f', t'⟩ := p'
          rw [← hj, hp, hp'] at hs
          rw [hp'] at e1
          have hs' := hs hb
          have K0 := Lib.hid c0
          have K1 := Lib.hid c1
          have K2 := Lib.hid c2
          have K3 := Lib.hid e1
          have hsub : IntKind.i64.wrap ((k : Int) - 1) = (j : Int) := by rw [IntWalk.i64_in _ (by omega)]; omega
          have hjn : j < n := by omega
          have hpos : 0 < k := by omega
          have hpos2 : decide (0 < k) = true := by simp [hpos]
          have hpos3 : (0 : Int) < (k : Int) := by omega
          have HJ := Lib.hid hj
          clear hj hk0
          by_cases hlt2 : f < f'
          · have hsf : okAt rs k = false := by rw [hs']; simp [hlt2]
            have HF := Lib.hid (HN.out _ hlt hsf)
            have hd : decide (f < f') = true := by simp [hlt2]
            clear hc hrf ht0 hcb hp hp' g0 g1 g2 hs hs' hsf
            go_wp2_with fail
            go_region_held3 (fun W => W.cell? ⟨g, k * 3, none⟩ = some (.string ⟨x.toArray⟩) ∧ W.cell? ⟨g, k * 3 + 1, none⟩ = some (.int .i64 f) ∧ W.cell? ⟨g, k * 3 + 2, none⟩ = some (.int .i64 t) ∧ W.cell? ⟨g, j * 3 + 1, none⟩ = some (.int .i64 f'))
              (first | go_keep | exact ⟨K0.out, K1.out, K2.out, K3.out⟩ | exact ⟨d0, d1, d2, d3⟩)
              (first | (go_at_call 89; refine (CON.out _).mono ?_; rintro e w3 ⟨rfl, hb3⟩; have hb3' := below_undrew hb3; have hL := hB.trans (hb3'.mono hB.size); have d0 := (hb3'.cell (p := ⟨g, k * 3, none⟩) hgw).trans K0.out; have d1 := (hb3'.cell (p := ⟨g, k * 3 + 1, none⟩) hgw).trans K1.out; have d2 := (hb3'.cell (p := ⟨g, k * 3 + 2, none⟩) hgw).trans K2.out; have d3 := (hb3'.cell (p := ⟨g, j * 3 + 1, none⟩) hgw).trans K3.out))
            go_wp2_with fail
            go_ret
            exact ⟨by rw [HF.out]; rfl, hL⟩
          · have hsf : okAt rs k = true := by rw [hs']; simp [hlt2]
            have hlt3 : f' ≤ f := by omega
            have hd : decide (f < f') = false := by simp [hlt3]
            have HSF := Lib.hid hsf
            clear hc hrf ht0 hcb hp hp' g0 g1 g2 hs hs' hsf hlt2
            go_wp2_with fail
            go_region_held3 (fun W => W.cell? ⟨g, k * 3, none⟩ = some (.string ⟨x.toArray⟩) ∧ W.cell? ⟨g, k * 3 + 1, none⟩ = some (.int .i64 f) ∧ W.cell? ⟨g, k * 3 + 2, none⟩ = some (.int .i64 t) ∧ W.cell? ⟨g, j * 3 + 1, none⟩ = some (.int .i64 f'))
              (first | go_keep | exact ⟨K0.out, K1.out, K2.out, K3.out⟩ | exact ⟨d0, d1, d2, d3⟩)
              (first | (go_at_call 89; refine (CON.out _).mono ?_; rintro e w3 ⟨rfl, hb3⟩; have hb3' := below_undrew hb3; have hL := hB.trans (hb3'.mono hB.size); have d0 := (hb3'.cell (p := ⟨g, k * 3, none⟩) hgw).trans K0.out; have d1 := (hb3'.cell (p := ⟨g, k * 3 + 1, none⟩) hgw).trans K1.out; have d2 := (hb3'.cell (p := ⟨g, k * 3 + 2, none⟩) hgw).trans K2.out; have d3 := (hb3'.cell (p := ⟨g, j * 3 + 1, none⟩) hgw).trans K3.out))
            go_wp2_with fail
            go_roundw
            case rel => exact ⟨k + 1, by omega, by go_num, Lib.hid (by intro i hi; by_cases hik : i = k; · subst hik; exact HSF.out
                                                                       · exact HA.out i (by omega)), hL⟩
            case measure => simp [intOf]; omega
    · obtain rfl : k = n := by omega
      have HA2 := Lib.hid (HY.out HA.out)
      by_cases h30 : k ≤ 30
      · have hd : decide ((k : Int) ≤ 30) = true := by simp; omega
        have hd2 : decide (k ≤ 30) = true := by simp [h30]
        rw [hd2] at HA2
        go_wp2_with fail
        go_ret
        exact ⟨by rw [HA2.out]; rfl, hB⟩
      · have hd : decide ((k : Int) ≤ 30) = false := by simp; omega
        have hd2 : decide (k ≤ 30) = false := by simp [h30]
        rw [hd2] at HA2
        go_wp2_with fail
        go_ret
        exact ⟨by rw [HA2.out]; rfl, hB⟩
theorem infoR : (Tryz.prog.info? 90).map (fun i => (i.zero, i.size, i.bytes)) = some (some (.agg #[.string ByteArray.empty, .int .i64 0, .int .i64 0]), 3, 32) := by kernel_rfl
set_option maxRecDepth 100000 in
theorem l_toReignP (a : Option Addr) (c : Nat) (rs : List RG) (w : World) (hin : InR w a rs.length rs) (hn : rs.length ≤ 1048576) : Calls Tryz.prog 29 #[.slice a rs.length c] w fun e w' => e = .returned (.slice (some ⟨w.heap.size, 0, none⟩) rs.length rs.length) ∧ PutR w' w.heap.size rs.length rs.length rs ∧ w.heap.size < w'.heap.size ∧ Below w.heap.size w w' := by
  have HI := Lib.hid hin; clear hin
  obtain ⟨n, hnn⟩ : ∃ n, rs.length = n := ⟨_, rfl⟩
  rw [hnn] at HI hn ⊢
  clear hnn
  obtain ⟨i0, hi, hz0, hz1, hz2⟩ := info_parts infoR
  have hmk := fun W => run_make (P := Tryz.prog) W 24 90 i0 (.agg #[.string ByteArray.empty, .int .i64 0, .int .i64 0]) Tryz.underlying24 hi hz0 .i64 .i64 (n : Int) (n : Int) (by omega) (Int.le_refl _) (by rw [hz2]; omega) (by omega)
  have hsz := size_madeCells (Value.agg #[.string ByteArray.empty, .int .i64 0, .int .i64 0]).cells (n * i0.size)
  rw [Int.toNat_natCast] at hmk
  obtain ⟨cs, hcs⟩ : ∃ cs, madeCells (Value.agg #[.string ByteArray.empty, .int .i64 0, .int .i64 0]).cells (n * i0.size) = cs := ⟨_, rfl⟩
  rw [hcs, hz1] at hsz
  simp only [hcs] at hmk
  clear hcs hi hz0 hz1 hz2
  go_enter Tryz.func29, Tryz.ntmps29
  go_wp2_with fail
  clear hmk
  go_loopw [4] (fun i wr => ∃ k : Nat, k ≤ n ∧ i = .int .i64 k ∧ PutR wr w.heap.size n k rs ∧ Below w.heap.size w wr) (fun i _ => n - (intOf i).toNat)
  case atStart => exact ⟨0, by omega, rfl, ⟨cs, Blk.new _ _ _, hsz, fun i h => absurd h (Nat.not_lt_zero i)⟩, below_alloc _ _⟩
  case round =>
    obtain ⟨k, hk, rfl, hP, hB⟩ := hrel
    by_cases hlt : k < n
    · obtain ⟨b, o, rfl, hb, hc⟩ := HI.out (by omega)
      obtain ⟨c0, c1, c2⟩ := hc k hlt
      have d0 := (hB.cell (p := ⟨b, o + k * 3, none⟩) hb).trans c0
      have d1 := (hB.cell (p := ⟨b, o + k * 3 + 1, none⟩) hb).trans c1
      have d2 := (hB.cell (p := ⟨b, o + k * 3 + 2, none⟩) hb).trans c2
      have hbw : b < wr.heap.size := Nat.lt_of_lt_of_le hb hB.size
      have hgw : w.heap.size < wr.heap.size := by obtain ⟨_, h, _⟩ := hP; exact h.lt
      have hst := fun W (hW : PutR W w.heap.size n k rs) => PutR.step hW hlt
      obtain ⟨p, hp⟩ : ∃ p, rs.getD k rg0 = p := ⟨_, rfl⟩
      rw [hp] at d0 d1 d2 hst
      obtain ⟨x, f, t⟩ := p
      have HS := Lib.hid hst
      clear hc c0 c1 c2 hp hst
      go_wp2_with fail
      refine (l_toReign _ _ _ _).mono ?_
      rintro e w2 ⟨rfl, hb2⟩
      have hP2 := hP.below hb2 hgw
      have HS2 := Lib.hid (HS.out _ hP2)
      obtain ⟨cs', g1, g2, _⟩ := hP2
      have f0 := g1.frozen (k * 3)
      have f1 := g1.frozen (k * 3 + 1)
      have f2 := g1.frozen (k * 3 + 2)
      have q0 : ∃ v, w2.cell? ⟨w.heap.size, k * 3, none⟩ = some v := ⟨_, (g1.cell _).trans (Array.getElem?_eq_getElem (by omega))⟩
      have q1 : ∃ v, w2.cell? ⟨w.heap.size, k * 3 + 1, none⟩ = some v := ⟨_, (g1.cell _).trans (Array.getElem?_eq_getElem (by omega))⟩
      have q2 : ∃ v, w2.cell? ⟨w.heap.size, k * 3 + 2, none⟩ = some v := ⟨_, (g1.cell _).trans (Array.getElem?_eq_getElem (by omega))⟩
      obtain ⟨_, q0⟩ := q0
      obtain ⟨_, q1⟩ := q1
      obtain ⟨_, q2⟩ := q2
      have L2 := hB.trans (hb2.mono hB.size)
      clear g1 g2 hP d0 d1 d2
      go_wp2_with fail
      go_roundw
      case rel => exact ⟨k + 1, by omega, by go_num, HS2.out, below_set' (below_set' (below_set' L2 (Nat.le_refl _) _ _) (Nat.le_refl _) _ _) (Nat.le_refl _) _ _⟩
      case measure => simp [intOf]; omega
    · obtain rfl : k = n := by omega
      have hgw : w.heap.size < wr.heap.size := by obtain ⟨_, h, _⟩ := hP; exact h.lt
      have HP := Lib.hid hP
      go_wp2_with fail
      go_ret
      exact ⟨rfl, HP.out, hgw, hB⟩
theorem l_toReignS (a : Option Addr) (c : Nat) (rs : List RG) (w : World) (hin : InR w a rs.length rs) (hn : rs.length ≤ 1048576) : Calls Tryz.prog 29 #[.slice a rs.length c] w fun e w' => e = .returned (.slice (some ⟨w.heap.size, 0, none⟩) rs.length rs.length) ∧ RowR w' w.heap.size rs.length rs ∧ w.heap.size < w'.heap.size ∧ Below w.heap.size w w' :=
  (l_toReignP a c rs w hin hn).mono fun _ _ ⟨h1, h2, h3, h4⟩ => ⟨h1, h2.row, h3, h4⟩
end Go.Proofs.YtmpgokijlikddaaGreatDoor
