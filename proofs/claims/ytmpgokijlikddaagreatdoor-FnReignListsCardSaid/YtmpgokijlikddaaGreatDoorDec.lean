/- A number in decimal, by the reference. Condition: a number below 10000000000. -/
import Derived.Test.YtmpgokijlikddaaGreatDoorKit
import Derived.Test.YtmpgokijlikddaaGreatDoorBlk
import Derived.Lib.ItoaMem
import Derived.Lib.ItoaLen
import Derived.Deep.RegionHeld3
import Derived.IntWalk
import Derived.Deep.DrawnRows
import Derived.Laws.IdiomStrings
namespace Go.Proofs.YtmpgokijlikddaaGreatDoor
open Go.RowKit
theorem below_undrewD {a w : World} (h : Below a.drew.heap.size a.drew w) : Below a.heap.size a w := ⟨h.os, h.tape, h.output, h.size, h.block⟩
theorem below_undrewE {a w : World} {o : Obj} (h : Below (a.drew.alloc o).heap.size (a.drew.alloc o) w) : Below (a.alloc o).heap.size (a.alloc o) w := ⟨h.os, h.tape, h.output, h.size, h.block⟩
theorem dec_small {u : Nat} (h : u < 10) : Lib.decDigits u = [UInt8.ofNat (48 + u)] := Lib.decDigits_one h
theorem dec_big {u : Nat} (h : ¬ u < 10) : Lib.decDigits u = Lib.decDigits (u / 10) ++ [UInt8.ofNat (48 + u % 10)] := by
  rw [Lib.decDigits, dif_neg h]
theorem bapp' (a b : List UInt8) : (⟨a.toArray⟩ : ByteArray) ++ ⟨b.toArray⟩ = ⟨(a ++ b).toArray⟩ := by
  apply ByteArray.ext
  simp [ByteArray.data_append]
theorem conv_at (W : World) (g : Nat) (c : UInt8) (x : Int) (hx : x = (c.toNat : Int)) (hc : W.cell? ⟨g, 0, none⟩ = some (.int .u8 x)) :
    (convert 22 9 (.slice (some ⟨g, 0, none⟩) 1 1)).run Tryz.prog W = .ok (.string ⟨[c].toArray⟩) W := by
  refine run_convert_bytes_back W 22 9 5 ⟨g, 0, none⟩ 1 [c] Tryz.underlying22 Tryz.underlying5 Tryz.underlying9 fun j hj => ?_
  obtain rfl : j = 0 := by simpa using hj
  have e : (⟨g, 0, none⟩ : Addr).add 0 = ⟨g, 0, none⟩ := by simp [Addr.add]
  rw [e, hc, hx]
  simp
set_option maxRecDepth 100000 in
set_option maxHeartbeats 8000000 in
theorem s_dec (u : Nat) (w : World) (h : u < 10000000000) : Calls Tryz.prog 81 #[.int .i64 u] w fun e w' => e = .returned (.string ⟨(Lib.decDigits u).toArray⟩) ∧ Below w.heap.size w w' := by
  by_cases h10 : u < 10
  · have hF := dec_small h10
    have hc : 48 + (u : Int) = ((UInt8.ofNat (48 + u)).toNat : Int) := by simp; omega
    obtain ⟨c, hcc⟩ : ∃ c, UInt8.ofNat (48 + u) = c := ⟨_, rfl⟩
    rw [hcc] at hF hc
    have HF := Lib.hid hF
    have hcv := conv_at (w.alloc (.cells #[.int .u8 (48 + (u : Int))] 5)) w.heap.size c (48 + (u : Int)) hc (by simp)
    clear hF hc hcc
    have hu : (u : Int) < 10 := by omega
    have hu0 : (0 : Int) ≤ u := by omega
    go_enter Tryz.func81, Tryz.ntmps81
    go_wp2_with fail
    go_ret
    exact ⟨by rw [HF.out]; rfl, below_alloc _ _⟩
  · have hF := dec_big h10
    have ih := fun W => s_dec (u / 10) W (by omega)
    have e : ((u / 10 : Nat) : Int) = (u : Int) / 10 := by omega
    rw [e] at ih
    have hD0 : (Lib.decDigits (u / 10)).length ≤ 20 := by rw [Lib.decDigits_length]; exact Lib.nDigits_le20 _ (by omega)
    obtain ⟨D, hD⟩ : ∃ D, Lib.decDigits (u / 10) = D := ⟨_, rfl⟩
    rw [hD] at ih hF hD0
    have hdig : IntKind.u8.wrap (48 + (u : Int) % 10) = 48 + (u : Int) % 10 := by rw [IntKind.wrap_u8]; omega
    have IH := Lib.hid ih
    have hc0 : (48 + (u : Int) % 10) = ((UInt8.ofNat (48 + u % 10)).toNat : Int) := by simp; omega
    obtain ⟨c, hcc⟩ : ∃ c, UInt8.ofNat (48 + u % 10) = c := ⟨_, rfl⟩
    rw [hcc] at hF hc0
    have HF := Lib.hid hF
    have hcv1 := fun W : World => conv_at (W.alloc (.cells #[.int .u8 (48 + (u : Int) % 10)] 5)) W.heap.size c (48 + (u : Int) % 10) hc0 (by simp)
    have HC := Lib.hid (fun (W : World) (hc : W.cell? ⟨w.heap.size, 0, none⟩ = some (.int .u8 (48 + (u : Int) % 10))) => conv_at W w.heap.size c (48 + (u : Int) % 10) hc0 hc)
    have hu : (10 : Int) ≤ u := by omega
    have hq1 : IntKind.i64.wrap ((u : Int) / 10) = (u : Int) / 10 := IntWalk.i64_in _ (by omega)
    have hq2 : IntKind.i64.wrap (48 + (u : Int) % 10) = 48 + (u : Int) % 10 := IntWalk.i64_in _ (by omega)
    have hq3 : ¬ 9223372036854775807 < D.length + 1 := by omega
    have hq4 := bapp' D [c]
    clear h10 ih e hc0 hF hcc hD
    go_enter Tryz.func81, Tryz.ntmps81
    go_wp2_with fail
    refine wp_region_any (by kernel_rfl) ?_
    change wpAny _ _ _ _ _ _ _ (World.drew _)
    refine wpAny_take (i := 0) (v := _) rfl (by kernel_rfl) (by kernel_rfl) (by kernel_rfl) (fun _ _ _ h => h) (Or.inl ⟨by kernel_rfl, fun W => by first | rfl | go_simp⟩) ?_
    simp only [Act.put]
    refine wpAny_take (i := 1) (v := .int .i64 ((u : Int) / 10)) rfl (by kernel_rfl) (by kernel_rfl) (by kernel_rfl) (fun _ _ _ h => h) (Or.inl ⟨by kernel_rfl, fun W => by first | rfl | go_simp⟩) ?_
    simp only [Act.put]
    refine wpAny_take (i := 3) (v := _) rfl (by kernel_rfl) (by kernel_rfl) (by kernel_rfl) (fun _ _ _ h => h) (Or.inl ⟨by kernel_rfl, fun W => by first | rfl | go_simp⟩) ?_
    simp only [Act.put]
    refine wpAny_take (i := 4) (v := .int .i64 ((u : Int) % 10)) rfl (by kernel_rfl) (by kernel_rfl) (by kernel_rfl) (fun _ _ _ h => h) (Or.inl ⟨by kernel_rfl, fun W => by first | rfl | go_simp⟩) ?_
    simp only [Act.put]
    refine wpAny_take (i := 5) (v := .int .i64 (48 + (u : Int) % 10)) rfl (by kernel_rfl) (by kernel_rfl) (by kernel_rfl) (fun _ _ _ h => h) (Or.inl ⟨by kernel_rfl, fun W => by first | rfl | go_simp⟩) ?_
    simp only [Act.put]
    refine wpAny_take (i := 6) (v := .int .u8 (48 + (u : Int) % 10)) rfl (by kernel_rfl) (by kernel_rfl) (by kernel_rfl) (fun _ _ _ h => h) (Or.inl ⟨by kernel_rfl, fun W => by first | rfl | go_simp⟩) ?_
    simp only [Act.put]
    refine wpAny_ready (rs := [2, 7]) (by kernel_rfl) (by simp) ?_
    refine AllReady.cons rfl (fun K hK => ?_) (AllReady.cons rfl (fun K hK => ?_) AllReady.nil)
    · go_simp
      go_at_call 81
      refine (IH.out _).mono ?_
      rintro e w1 ⟨rfl, hb⟩
      refine hK _ _ ?_
      clear hK K
      refine wpAny_ready (rs := [7]) (by kernel_rfl) (by simp) ?_
      refine AllReady.cons rfl (fun K hK => ?_) AllReady.nil
      go_simp
      refine hK _ _ ?_
      clear hK K
      refine wpAny_ready (rs := [8]) (by kernel_rfl) (by simp) ?_
      refine AllReady.cons rfl (fun K hK => ?_) AllReady.nil
      have hcv := hcv1 w1
      go_simp
      refine hK _ _ ?_
      clear hK K
      refine wpAny_take (i := 9) (v := .string ⟨(D ++ [c]).toArray⟩) rfl (by kernel_rfl) (by kernel_rfl) (by kernel_rfl) (fun _ _ _ h => h) (Or.inl ⟨by kernel_rfl, fun W => by first | rfl | go_simp⟩) ?_
      simp only [Act.put]
      refine wpAny_take (i := 10) (v := .string ⟨(D ++ [c]).toArray⟩) rfl (by kernel_rfl) (by kernel_rfl) (by kernel_rfl) (fun _ _ _ h => h) (Or.inl ⟨by kernel_rfl, fun W => by first | rfl | go_simp⟩) ?_
      simp only [Act.put]
      refine wpAny_done (by kernel_rfl) ?_ _
      simp only [List.getElem_toArray, List.getElem_cons_succ, List.getElem_cons_zero, List.setIfInBounds_toArray, List.set_cons_succ, List.set_cons_zero]
      go_wp2_with fail
      go_ret
      exact ⟨by rw [HF.out]; rfl, (below_undrewD hb).trans ((below_alloc w1 _).mono hb.size)⟩
    · go_simp
      refine hK _ _ ?_
      clear hK K
      refine wpAny_ready (rs := [2, 8]) (by kernel_rfl) (by simp) ?_
      refine AllReady.cons rfl (fun K hK => ?_) (AllReady.cons rfl (fun K hK => ?_) AllReady.nil)
      · go_simp
        go_at_call 81
        refine (IH.out _).mono ?_
        rintro e w1 ⟨rfl, hb⟩
        refine hK _ _ ?_
        clear hK K
        refine wpAny_ready (rs := [8]) (by kernel_rfl) (by simp) ?_
        refine AllReady.cons rfl (fun K hK => ?_) AllReady.nil
        have hcv := HC.out w1 ((hb.cell (p := ⟨w.heap.size, 0, none⟩) (by simp)).trans (by simp))
        go_simp
        refine hK _ _ ?_
        clear hK K
        refine wpAny_take (i := 9) (v := .string ⟨(D ++ [c]).toArray⟩) rfl (by kernel_rfl) (by kernel_rfl) (by kernel_rfl) (fun _ _ _ h => h) (Or.inl ⟨by kernel_rfl, fun W => by first | rfl | go_simp⟩) ?_
        simp only [Act.put]
        refine wpAny_take (i := 10) (v := .string ⟨(D ++ [c]).toArray⟩) rfl (by kernel_rfl) (by kernel_rfl) (by kernel_rfl) (fun _ _ _ h => h) (Or.inl ⟨by kernel_rfl, fun W => by first | rfl | go_simp⟩) ?_
        simp only [Act.put]
        refine wpAny_done (by kernel_rfl) ?_ _
        simp only [List.getElem_toArray, List.getElem_cons_succ, List.getElem_cons_zero, List.setIfInBounds_toArray, List.set_cons_succ, List.set_cons_zero]
        go_wp2_with fail
        go_ret
        exact ⟨by rw [HF.out]; rfl, (below_alloc w _).trans ((below_undrewE hb).mono (by simp))⟩
      · have hcv := HC.out (w.alloc (.cells #[.int .u8 (48 + (u : Int) % 10)] 5)).drew (by simp)
        go_simp
        refine hK _ _ ?_
        clear hK K
        refine wpAny_ready (rs := [2]) (by kernel_rfl) (by simp) ?_
        refine AllReady.cons rfl (fun K hK => ?_) AllReady.nil
        go_simp
        go_at_call 81
        refine (IH.out _).mono ?_
        rintro e w1 ⟨rfl, hb⟩
        refine hK _ _ ?_
        clear hK K
        refine wpAny_take (i := 9) (v := .string ⟨(D ++ [c]).toArray⟩) rfl (by kernel_rfl) (by kernel_rfl) (by kernel_rfl) (fun _ _ _ h => h) (Or.inl ⟨by kernel_rfl, fun W => by first | rfl | go_simp⟩) ?_
        simp only [Act.put]
        refine wpAny_take (i := 10) (v := .string ⟨(D ++ [c]).toArray⟩) rfl (by kernel_rfl) (by kernel_rfl) (by kernel_rfl) (fun _ _ _ h => h) (Or.inl ⟨by kernel_rfl, fun W => by first | rfl | go_simp⟩) ?_
        simp only [Act.put]
        refine wpAny_done (by kernel_rfl) ?_ _
        simp only [List.getElem_toArray, List.getElem_cons_succ, List.getElem_cons_zero, List.setIfInBounds_toArray, List.set_cons_succ, List.set_cons_zero]
        go_wp2_with fail
        go_ret
        exact ⟨by rw [HF.out]; rfl, (below_alloc w _).trans ((below_undrewE hb).mono (by simp))⟩
termination_by u
end Go.Proofs.YtmpgokijlikddaaGreatDoor
