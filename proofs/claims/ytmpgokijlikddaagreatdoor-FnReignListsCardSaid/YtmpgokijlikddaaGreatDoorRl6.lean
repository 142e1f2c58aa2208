/- Texts put together: KingP RegOn RlP RRow. No condition beyond those that stand in each. -/
import Derived.Test.YtmpgokijlikddaaGreatDoorRegs
import Derived.Test.YtmpgokijlikddaaGreatDoorRl2
import Derived.Test.YtmpgokijlikddaaGreatDoorAreI
import Derived.Test.YtmpgokijlikddaaGreatDoorRl1
import Derived.Maps.AppendAt
/- The years of a king, the void and the disputed days, plainly. No condition. -/
namespace Go.Proofs.YtmpgokijlikddaaGreatDoor
theorem are_open {rs : List RG} (h : areB rs = true) : rs.length ≤ 30 ∧ ∀ i, i < rs.length → 0 ≤ (rs.getD i rg0).2.1 ∧ (rs.getD i rg0).2.1 ≤ (rs.getD i rg0).2.2 ∧ (rs.getD i rg0).2.2 ≤ 730499 := by
  unfold areB at h
  rw [Bool.and_eq_true, List.all_eq_true] at h
  obtain ⟨h1, h2⟩ := h
  refine ⟨of_decide_eq_true h2, fun i hi => ?_⟩
  have := h1 i (List.mem_range.2 hi)
  unfold okAt at this
  rw [Bool.and_eq_true] at this
  exact reg_open this.1
/-- the spans of the years k of a king's reigns -/
def kyT (rs : List RG) (x : List UInt8) (k : Int) : Nat → List Sp
  | 0 => []
  | j + 1 => if (rs.getD j rg0).1 = x ∧ (rsp (rs.getD j rg0).2.1 (rs.getD j rg0).2.2 k).2 = true then kyT rs x k j ++ [(rsp (rs.getD j rg0).2.1 (rs.getD j rg0).2.2 k).1] else kyT rs x k j
theorem kyT_T {rs : List RG} {x : List UInt8} {k : Int} {j : Nat} (h1 : (rs.getD j rg0).1 = x) (h2 : (rsp (rs.getD j rg0).2.1 (rs.getD j rg0).2.2 k).2 = true) :
    kyT rs x k (j + 1) = kyT rs x k j ++ [(rsp (rs.getD j rg0).2.1 (rs.getD j rg0).2.2 k).1] := by rw [kyT, if_pos ⟨h1, h2⟩]
theorem kyT_x {rs : List RG} {x : List UInt8} {k : Int} {j : Nat} (h1 : ¬ (rs.getD j rg0).1 = x) : kyT rs x k (j + 1) = kyT rs x k j := by rw [kyT, if_neg (fun h => h1 h.1)]
theorem kyT_o {rs : List RG} {x : List UInt8} {k : Int} {j : Nat} (h1 : (rsp (rs.getD j rg0).2.1 (rs.getD j rg0).2.2 k).2 = false) : kyT rs x k (j + 1) = kyT rs x k j := by rw [kyT, if_neg (fun h => by rw [h1] at h; exact absurd h.2 (by decide))]
theorem kyT_len (rs : List RG) (x : List UInt8) (k : Int) : ∀ j, (kyT rs x k j).length ≤ j
  | 0 => Nat.le_refl _
  | j + 1 => by
    have := kyT_len rs x k j
    unfold kyT; split
    · simp; omega
    · omega
theorem rsp_le {f t k : Int} (h0 : 0 ≤ f) (hft : f ≤ t) (ht : t ≤ 730499) (hk : 1 ≤ k) (h : (rsp f t k).2 = true) : spB (rsp f t k).1 ∧ (rsp f t k).1.1 ≤ (rsp f t k).1.2 := by
  obtain ⟨a, b, c, d⟩ := rsp_bd (k := k) h0 hft ht hk
  refine ⟨⟨by omega, by omega, by omega, by omega⟩, ?_⟩
  have hc : k ≤ 2000 ∧ bg f k ≤ t := by
    by_cases hc : k ≤ 2000 ∧ bg f k ≤ t
    · exact hc
    · rw [rsp_none hc] at h; cases h
  rw [rsp_some hc.1 hc.2]
  have := bg_lt f k (k + 1) (by omega)
  show bg f k ≤ min t (bg f (k + 1) - 1)
  omega
theorem kyT_ok {rs : List RG} {x : List UInt8} {k : Int} (h : areB rs = true) (hk : 1 ≤ k) : ∀ j, j ≤ rs.length → ∀ s ∈ kyT rs x k j, spB s ∧ s.1 ≤ s.2
  | 0, _, s, hs => absurd hs List.not_mem_nil
  | j + 1, hj, s, hs => by
    unfold kyT at hs
    split at hs
    · rename_i hc
      rcases List.mem_append.1 hs with hs | hs
      · exact kyT_ok h hk j (by omega) s hs
      · obtain rfl := List.mem_singleton.1 hs
        obtain ⟨a, b, c⟩ := (are_open h).2 j (by omega)
        exact rsp_le a b c hk hc.2
    · exact kyT_ok h hk j (by omega) s hs
/-- the set of the days in a year of a king, and the code -/
def kyF (rs : List RG) (x : List UInt8) (k : Int) : List Sp × Int :=
  if areB rs then (if k < 1 then ([], 2) else if kyT rs x k rs.length = [] then ([], 4) else (uni (kyT rs x k rs.length), 0)) else ([], 1)
theorem kyF_len (rs : List RG) (x : List UInt8) (k : Int) : (kyF rs x k).1.length ≤ 30 := by
  unfold kyF
  split
  · rename_i h
    split
    · simp
    · rename_i hk
      split
      · simp
      · have h2 := (are_open h).1
        have := uni_lenF (l := kyT rs x k rs.length) (F := (kyT rs x k rs.length).map (·.1)) (fun s hs => (kyT_ok h (by omega) _ (Nat.le_refl _) s hs).2) (fun s hs => List.mem_map.2 ⟨s, hs, rfl⟩)
        rw [List.length_map] at this
        have := kyT_len rs x k rs.length
        show (uni _).length ≤ 30
        omega
  · simp
/-- the spans of reigns -/
def spn (rs : List RG) : List Sp := rs.map fun r => r.2
theorem spn_len (rs : List RG) : (spn rs).length = rs.length := by simp [spn]
theorem spn_get (rs : List RG) (i : Nat) : (spn rs).getD i sp0 = (rs.getD i rg0).2 := by
  unfold spn
  rw [List.getD_eq_getElem?_getD, List.getD_eq_getElem?_getD, List.getElem?_map]
  cases rs[i]? <;> rfl
theorem spn_snoc (rs : List RG) (i : Nat) (h : i < rs.length) : (spn rs).take (i + 1) = (spn rs).take i ++ [(rs.getD i rg0).2] := by
  rw [← spn_get rs i]
  exact take_snoc _ _ (by rw [spn_len]; exact h)
theorem spn_ok {rs : List RG} (h : areB rs = true) : ∀ s ∈ spn rs, (0 ≤ s.1 ∧ s.2 ≤ 730499) ∧ s.1 ≤ s.2 := by
  intro s hs
  obtain ⟨i, hi, rfl⟩ := List.getElem_of_mem hs
  have e : (spn rs)[i] = (rs.getD i rg0).2 := by rw [← spn_get rs i]; simp [hi]
  rw [spn_len] at hi
  obtain ⟨a, b, c⟩ := (are_open h).2 i hi
  rw [e]
  exact ⟨⟨a, c⟩, b⟩
theorem spn_bd {rs : List RG} (h : areB rs = true) : ∀ s ∈ spn rs, spB s := fun s hs => by
  obtain ⟨⟨a, b⟩, c⟩ := spn_ok h s hs
  exact ⟨by omega, by omega, by omega, by omega⟩
theorem dis_ok {rs : List RG} (h : areB rs = true) : ∀ s ∈ dis (spn rs) rs.length, spB s ∧ s.1 ≤ s.2 := fun s hs => by
  obtain ⟨j, k, hj, hk, hm⟩ := dis_mem hs
  exact ⟨mt_spB (spn_bd h) (by rw [spn_len]; omega) (by rw [spn_len]; omega) hm, (mt_ok hm).2.2⟩
theorem tim_ok {rs : List RG} (h : areB rs = true) : ∀ s ∈ tim (spn rs) rs.length, spB s ∧ s.1 ≤ s.2 := fun s hs => by
  obtain ⟨j, k, hj, hk, hm⟩ := tim_mem hs
  exact ⟨mt_spB (spn_bd h) (by rw [spn_len]; omega) (by rw [spn_len]; omega) hm, (mt_ok hm).2.2⟩
theorem dis_uni_len {rs : List RG} (h : areB rs = true) : (uni (dis (spn rs) rs.length)).length ≤ 30 := by
  have := uni_lenF (l := dis (spn rs) rs.length) (F := (spn rs).map (·.1)) (fun s hs => (dis_ok h s hs).2) (fun s hs => by
    obtain ⟨j, k, hj, hk, hm⟩ := dis_mem hs
    exact mt_from (by rw [spn_len]; omega) (by rw [spn_len]; omega) hm)
  rw [List.length_map, spn_len] at this
  have := (are_open h).1
  omega
theorem spn_uni_len {rs : List RG} (h : areB rs = true) : (uni (spn rs)).length ≤ 30 := by
  have := uni_lenF (l := spn rs) (F := (spn rs).map (·.1)) (fun s hs => (spn_ok h s hs).2) (fun s hs => List.mem_map.2 ⟨s, hs, rfl⟩)
  rw [List.length_map, spn_len] at this
  have := (are_open h).1
  omega
theorem tim_spn {rs : List RG} (h : areB rs = true) : uni (tim (spn rs) rs.length) = uni (spn rs) := by
  have := tim_uni (S := spn rs) fun s hs => (spn_ok h s hs).2
  rwa [spn_len] at this
/-- the disputed days, and the code -/
def ddF (rs : List RG) : List Sp × Int := if areB rs then (uni (dis (spn rs) rs.length), 0) else ([], 1)
theorem ddF_len (rs : List RG) : (ddF rs).1.length ≤ 30 := by
  unfold ddF; split
  · rename_i h; exact dis_uni_len h
  · simp
/-- the void days of a span, and the code -/
def vdF (rs : List RG) (f t : Int) : List Sp × Int :=
  if areB rs then (if inB f 0 730499 = true ∧ inB t 0 730499 = true ∧ f ≤ t then (met1 (f, t) (rst 0 (uni (spn rs))), 0) else ([], 2)) else ([], 1)
theorem vdF_len (rs : List RG) (f t : Int) : (vdF rs f t).1.length ≤ 31 := by
  unfold vdF; split
  · rename_i h
    split
    · have h1 := spn_uni_len h
      have h2 := rst_len (uni (spn rs)) 0
      have h3 := met1_len (f, t) (rst 0 (uni (spn rs)))
      show (met1 _ _).length ≤ 31
      omega
    · simp
  · simp
end Go.Proofs.YtmpgokijlikddaaGreatDoor
/- The reigns that a day is in: the program's and the reference's functions return what the plain function says. Conditions: lengths that a machine can hold; how the list lies. -/
namespace Go.Proofs.YtmpgokijlikddaaGreatDoor
open Go.RowKit
def onK (rs : List RG) (m : Int) : Nat → List Int
  | 0 => []
  | k + 1 => if inB m (rs.getD k rg0).2.1 (rs.getD k rg0).2.2 then onK rs m k ++ [(k : Int)] else onK rs m k
theorem onK_T {rs : List RG} {m : Int} {k : Nat} (h : inB m (rs.getD k rg0).2.1 (rs.getD k rg0).2.2 = true) : onK rs m (k + 1) = onK rs m k ++ [(k : Int)] := by rw [onK, if_pos h]
theorem onK_F {rs : List RG} {m : Int} {k : Nat} (h : inB m (rs.getD k rg0).2.1 (rs.getD k rg0).2.2 = false) : onK rs m (k + 1) = onK rs m k := by rw [onK, if_neg (by rw [h]; decide)]
theorem onK_len (rs : List RG) (m : Int) : ∀ k, (onK rs m k).length ≤ k
  | 0 => by simp [onK]
  | k + 1 => by
    have := onK_len rs m k
    unfold onK; split
    · simp; omega
    · omega
set_option maxRecDepth 100000 in
set_option maxHeartbeats 600000 in
theorem s_on7 (g c : Nat) (rs : List RG) (m : Int) (w : World) (hR : RowR w g rs.length rs) (hn : rs.length ≤ 1048576) : Calls Tryz.prog 77 #[.slice (some ⟨g, 0, none⟩) rs.length c, .int .i64 m] w fun e w' => ∃ v, e = .returned v ∧ OwnI w' w.heap.size v (onK rs m rs.length) ∧ Below w.heap.size w w' := by
  have HR := Lib.hid hR; clear hR
  have HT := Lib.hid (fun k => @onK_T rs m k)
  have HF := Lib.hid (fun k => @onK_F rs m k)
  have HL := Lib.hid (onK_len rs m)
  obtain ⟨n, hnn⟩ : ∃ n, rs.length = n := ⟨_, rfl⟩
  rw [hnn] at HR hn ⊢
  clear hnn
  go_enter Tryz.func77, Tryz.ntmps77
  go_wp2_with fail
  go_loopw [5, 6] (fun o i wr => ∃ k : Nat, k ≤ n ∧ i = .int .i64 k ∧ OwnI wr w.heap.size o (onK rs m k) ∧ Below w.heap.size w wr) (fun _ i _ => n - (intOf i).toNat)
  case atStart => exact ⟨0, by omega, rfl, OwnI.lit0 w, below_alloc _ _⟩
  case round =>
    obtain ⟨k, hk, rfl, hown, hB⟩ := hrel
    have hw := hB.size
    by_cases hlt : k < n
    · obtain ⟨hg, hc⟩ := HR.out (by omega)
      obtain ⟨_, h1, h2⟩ := hc k hlt
      have c1 := (hB.cell (p := ⟨g, k * 3 + 1, none⟩) hg).trans h1
      have c2 := (hB.cell (p := ⟨g, k * 3 + 2, none⟩) hg).trans h2
      have hgw : g < wr.heap.size := Nat.lt_of_lt_of_le hg hw
      have hT := HT.out k
      have hF := HF.out k
      have hlen := HL.out k
      obtain ⟨p, hp⟩ : ∃ p, rs.getD k rg0 = p := ⟨_, rfl⟩
      rw [hp] at c1 c2 hT hF
      obtain ⟨x, f, t⟩ := p
      obtain ⟨b, hb⟩ : ∃ b, inB m f t = b := ⟨_, rfl⟩
      have HO := Lib.hid hown
      clear hc h1 h2 hp
      cases b with
      | false =>
        have HS := Lib.hid (hF hb)
        clear hT hF hown
        go_wp2_with fail
        go_quiet ((go_at_call 128; exact q1 (toB (s_in _ _ _ _) hb)))
        go_wp2_with fail
        go_roundw
        case rel => exact ⟨k + 1, by omega, by go_num, by rw [HS.out]; exact HO.out, below_drewN hB _⟩
        case measure => simp [intOf]; omega
      | true =>
        have HS := Lib.hid (hT hb)
        clear hT hF hown
        go_wp2_with fail
        go_quiet ((go_at_call 128; exact q1 (toB (s_in _ _ _ _) hb)))
        have hB2 := below_drewN hB nq
        have hown := HO.out.drewN nq
        have hw2 : w.heap.size ≤ (wr.drewN nq).heap.size := hw
        clear c1 c2 hgw hw hB HO
        generalize wr.drewN nq = ws at *
        go_wp2_with (at_builtin; refine wpList_appI rfl _ _ rfl _ _ _ _ _ rfl hown rfl (by omega) (by omega) ?_; intro v' w5 hown5 hg5)
        go_roundw
        case rel => exact ⟨k + 1, by omega, by go_num, by rw [HS.out]; exact hown5, hown.below_grown hB2 hg5 hw2⟩
        case measure => simp [intOf]; omega
    · obtain rfl : k = n := by omega
      have HO := Lib.hid hown; clear hown
      go_wp2_with fail
      go_ret
      exact ⟨_, rfl, HO.out, hB⟩
set_option maxRecDepth 100000 in
set_option maxHeartbeats 600000 in
theorem i_on7 (g c : Nat) (rs : List RG) (m : Int) (w : World) (hR : RowR w g rs.length rs) (hn : rs.length ≤ 1048576) : Calls Tryz.prog 76 #[.slice (some ⟨g, 0, none⟩) rs.length c, .int .i64 m] w fun e w' => ∃ v, e = .returned v ∧ OwnI w' w.heap.size v (onK rs m rs.length) ∧ Below w.heap.size w w' := by
  have HR := Lib.hid hR; clear hR
  have HT := Lib.hid (fun k => @onK_T rs m k)
  have HF := Lib.hid (fun k => @onK_F rs m k)
  have HL := Lib.hid (onK_len rs m)
  obtain ⟨n, hnn⟩ : ∃ n, rs.length = n := ⟨_, rfl⟩
  rw [hnn] at HR hn ⊢
  clear hnn
  go_enter Tryz.func76, Tryz.ntmps76
  go_wp2_with fail
  go_loopw [5, 11] (fun o i wr => ∃ k : Nat, k ≤ n ∧ i = .int .i64 k ∧ OwnI wr w.heap.size o (onK rs m k) ∧ Below w.heap.size w wr) (fun _ i _ => n - (intOf i).toNat)
  case atStart => exact ⟨0, by omega, rfl, OwnI.lit0 w, below_alloc _ _⟩
  case round =>
    obtain ⟨k, hk, rfl, hown, hB⟩ := hrel
    have hw := hB.size
    by_cases hlt : k < n
    · obtain ⟨hg, hc⟩ := HR.out (by omega)
      obtain ⟨h0, h1, h2⟩ := hc k hlt
      have c0 := (hB.cell (p := ⟨g, k * 3, none⟩) hg).trans h0
      have c1 := (hB.cell (p := ⟨g, k * 3 + 1, none⟩) hg).trans h1
      have c2 := (hB.cell (p := ⟨g, k * 3 + 2, none⟩) hg).trans h2
      have hgw : g < wr.heap.size := Nat.lt_of_lt_of_le hg hw
      have hT := HT.out k
      have hF := HF.out k
      have hlen := HL.out k
      obtain ⟨p, hp⟩ : ∃ p, rs.getD k rg0 = p := ⟨_, rfl⟩
      rw [hp] at c0 c1 c2 hT hF
      obtain ⟨x, f, t⟩ := p
      obtain ⟨b, hb⟩ : ∃ b, inB m f t = b := ⟨_, rfl⟩
      have HO := Lib.hid (hown.alloc (.cells #[.string ⟨x.toArray⟩, .int .i64 f, .int .i64 t] 90))
      have hLA := below_more hB hw (.cells #[.string ⟨x.toArray⟩, .int .i64 f, .int .i64 t] 90)
      clear hc h0 h1 h2 hp
      cases b with
      | false =>
        have HS := Lib.hid (hF hb)
        clear hT hF hown
        go_wp2_with fail
        refine (toBelowB (i_covers _ _ _ _ _) hb).mono ?_
        rintro e w3 ⟨rfl, hb3⟩
        have hown3 := HO.out.below hb3
        have L3 := hLA.trans (hb3.mono (by simp; omega))
        go_wp2_with fail
        go_roundw
        case rel => exact ⟨k + 1, by omega, by go_num, by rw [HS.out]; exact hown3, L3⟩
        case measure => simp [intOf]; omega
      | true =>
        have HS := Lib.hid (hT hb)
        clear hT hF hown
        go_wp2_with fail
        refine (toBelowB (i_covers _ _ _ _ _) hb).mono ?_
        rintro e w3 ⟨rfl, hb3⟩
        have hown3 := HO.out.below hb3
        have L3 := hLA.trans (hb3.mono (by simp; omega))
        have hw3 := L3.size
        go_wp2_with (at_builtin; refine wpList_appI rfl _ _ rfl _ _ _ _ _ rfl hown3 rfl (by omega) (by omega) ?_; intro v' w5 hown5 hg5)
        go_roundw
        case rel => exact ⟨k + 1, by omega, by go_num, by rw [HS.out]; exact hown5, hown3.below_grown L3 hg5 hw3⟩
        case measure => simp [intOf]; omega
    · obtain rfl : k = n := by omega
      have HO := Lib.hid hown; clear hown
      go_wp2_with fail
      go_ret
      exact ⟨_, rfl, HO.out, hB⟩
end Go.Proofs.YtmpgokijlikddaaGreatDoor
/- Lists of reigns, plainly: the disputed days are those of two reigns or more, the void days are those of none. No condition. -/
namespace Go.Proofs.YtmpgokijlikddaaGreatDoor
/-- is a day in the reign i -/
def onB (rs : List RG) (m : Int) (i : Nat) : Prop := inB m (rs.getD i rg0).2.1 (rs.getD i rg0).2.2 = true
theorem onB_iff {rs : List RG} {m : Int} {i : Nat} : onB rs m i ↔ ((spn rs).getD i sp0).1 ≤ m ∧ m ≤ ((spn rs).getD i sp0).2 := by
  unfold onB inB; rw [spn_get]; simp
theorem onK_some {rs : List RG} {m : Int} : ∀ k, 1 ≤ (onK rs m k).length ↔ ∃ j, j < k ∧ onB rs m j
  | 0 => by simp [onK]
  | k + 1 => by
    have ih := onK_some (rs := rs) (m := m) k
    cases hb : inB m (rs.getD k rg0).2.1 (rs.getD k rg0).2.2 with
    | true =>
      rw [onK_T hb]
      constructor
      · intro _; exact ⟨k, by omega, hb⟩
      · intro _; simp
    | false =>
      rw [onK_F hb, ih]
      constructor
      · rintro ⟨j, hj, h⟩; exact ⟨j, by omega, h⟩
      · rintro ⟨j, hj, h⟩
        by_cases hjk : j = k
        · subst hjk; unfold onB at h; rw [hb] at h; cases h
        · exact ⟨j, by omega, h⟩
theorem onK_two {rs : List RG} {m : Int} : ∀ k, 2 ≤ (onK rs m k).length ↔ ∃ j i, j < k ∧ i < j ∧ onB rs m j ∧ onB rs m i
  | 0 => by simp [onK]
  | k + 1 => by
    have ih := onK_two (rs := rs) (m := m) k
    have h1 := onK_some (rs := rs) (m := m) k
    cases hb : inB m (rs.getD k rg0).2.1 (rs.getD k rg0).2.2 with
    | true =>
      rw [onK_T hb, List.length_append, List.length_singleton]
      constructor
      · intro h
        obtain ⟨i, hi, h⟩ := h1.1 (by omega)
        exact ⟨k, i, by omega, hi, hb, h⟩
      · rintro ⟨j, i, hj, hi, a, b⟩
        have := h1.2 ⟨i, by omega, b⟩
        omega
    | false =>
      rw [onK_F hb, ih]
      constructor
      · rintro ⟨j, i, hj, h⟩; exact ⟨j, i, by omega, h⟩
      · rintro ⟨j, i, hj, hi, h, h'⟩
        by_cases hjk : j = k
        · subst hjk; unfold onB at h; rw [hb] at h; cases h
        · exact ⟨j, i, by omega, hi, h, h'⟩
theorem inn_cov {S : List Sp} {i : Nat} {n : Int} : ∀ {k}, cov (inn S i k) n ↔ ∃ j, j < k ∧ ((S.getD i sp0).1 ≤ n ∧ n ≤ (S.getD i sp0).2) ∧ ((S.getD j sp0).1 ≤ n ∧ n ≤ (S.getD j sp0).2) := by
  intro k
  constructor
  · rintro ⟨s, hs, h1, h2⟩
    obtain ⟨j, hj, hm⟩ := inn_mem hs
    obtain ⟨a, b, _⟩ := mt_ok hm
    exact ⟨j, hj, ⟨by omega, by omega⟩, ⟨by omega, by omega⟩⟩
  · rintro ⟨j, hj, ⟨a, b⟩, c, d⟩
    have key : ∀ k, j < k → (max (S.getD i sp0).1 (S.getD j sp0).1, min (S.getD i sp0).2 (S.getD j sp0).2) ∈ inn S i k := by
      intro k
      induction k with
      | zero => intro h; omega
      | succ k ih =>
        intro h
        by_cases hk : j < k
        · exact List.mem_append_left _ (ih hk)
        · obtain rfl : j = k := by omega
          refine List.mem_append_right _ ?_
          rw [mt_T (by omega)]; exact List.mem_singleton.2 rfl
    refine ⟨_, key k hj, ?_, ?_⟩
    · show max _ _ ≤ n; omega
    · show n ≤ min _ _; omega
theorem dis_cov {S : List Sp} {n : Int} : ∀ {i}, cov (dis S i) n ↔ ∃ j k, j < i ∧ k < j ∧ ((S.getD j sp0).1 ≤ n ∧ n ≤ (S.getD j sp0).2) ∧ ((S.getD k sp0).1 ≤ n ∧ n ≤ (S.getD k sp0).2)
  | 0 => by
    constructor
    · rintro ⟨s, hs, _⟩; exact absurd hs List.not_mem_nil
    · rintro ⟨j, k, hj, _⟩; omega
  | i + 1 => by
    have ih := dis_cov (S := S) (n := n) (i := i)
    have hi := inn_cov (S := S) (i := i) (n := n) (k := i)
    constructor
    · rintro ⟨s, hs, h⟩
      rcases List.mem_append.1 hs with hs | hs
      · obtain ⟨j, k, hj, h'⟩ := ih.1 ⟨s, hs, h⟩; exact ⟨j, k, by omega, h'⟩
      · obtain ⟨k, hk, h'⟩ := hi.1 ⟨s, hs, h⟩; exact ⟨i, k, by omega, hk, h'⟩
    · rintro ⟨j, k, hj, hk, h1, h2⟩
      by_cases hji : j = i
      · subst hji
        obtain ⟨s, hs, h⟩ := hi.2 ⟨k, hk, h1, h2⟩
        exact ⟨s, List.mem_append_right _ hs, h⟩
      · obtain ⟨s, hs, h⟩ := ih.2 ⟨j, k, by omega, hk, h1, h2⟩
        exact ⟨s, List.mem_append_left _ hs, h⟩
/-- a disputed day is a day of two reigns -/
theorem dis_on {rs : List RG} (h : areB rs = true) (m : Int) : cov (uni (dis (spn rs) rs.length)) m ↔ 2 ≤ (onK rs m rs.length).length := by
  rw [(uni_ok (fun s hs => (dis_ok h s hs).2)).2 m, dis_cov, onK_two]
  simp only [onB_iff]
theorem rst_free : ∀ {L : List Sp} {a : Int}, norm L → ∀ s ∈ rst a L, (a ≤ s.1 ∨ ∃ u ∈ L, u.2 < s.1) ∧ ∀ n, s.1 ≤ n → n ≤ s.2 → ¬ cov L n
  | [], a, _, s, hs => by
    unfold rst at hs
    split at hs
    · obtain rfl := List.mem_singleton.1 hs
      exact ⟨.inl (Int.le_refl _), fun n _ _ hc => by obtain ⟨u, hu, _⟩ := hc; exact absurd hu List.not_mem_nil⟩
    · exact absurd hs List.not_mem_nil
  | u :: l, a, h, s, hs => by
    obtain ⟨h1, h2, h3⟩ := h
    unfold rst at hs
    rcases List.mem_append.1 hs with hs | hs
    · split at hs
      · obtain rfl := List.mem_singleton.1 hs
        refine ⟨.inl (Int.le_refl _), fun n hn hn2 hc => ?_⟩
        obtain ⟨v, hv, ha, hb⟩ := hc
        dsimp only at hn hn2
        rcases List.mem_cons.1 hv with rfl | hv
        · omega
        · have := h2 v hv; omega
      · exact absurd hs List.not_mem_nil
    · obtain ⟨ih1, ih2⟩ := rst_free (a := u.2 + 1) h3 s hs
      have hlow : u.2 < s.1 := by
        rcases ih1 with h | ⟨v, hv, h⟩
        · omega
        · have := h2 v hv
          have hv2 := norm_le h3 v hv
          omega
      refine ⟨.inr ⟨u, List.mem_cons_self .., hlow⟩, fun n hn hn2 hc => ?_⟩
      obtain ⟨v, hv, ha, hb⟩ := hc
      rcases List.mem_cons.1 hv with rfl | hv
      · omega
      · exact ih2 n hn hn2 ⟨v, hv, ha, hb⟩
theorem met1_mem {a s : Sp} : ∀ {R : List Sp}, s ∈ met1 a R → ∃ b ∈ R, s ∈ mt a b
  | [], h => absurd h List.not_mem_nil
  | b :: l, h => by
    unfold met1 at h
    rcases List.mem_append.1 h with h | h
    · exact ⟨b, List.mem_cons_self .., h⟩
    · split at h
      · exact absurd h List.not_mem_nil
      · obtain ⟨c, hc, h⟩ := met1_mem h
        exact ⟨c, List.mem_cons_of_mem _ hc, h⟩
/-- a void span lies in the days asked for, and its first day is in no reign -/
theorem void_on {rs : List RG} (h : areB rs = true) {f t : Int} {s : Sp} (hs : s ∈ met1 (f, t) (rst 0 (uni (spn rs)))) : f ≤ s.1 ∧ s.1 ≤ s.2 ∧ s.2 ≤ t ∧ onK rs s.1 rs.length = [] := by
  obtain ⟨b, hb, hm⟩ := met1_mem hs
  obtain ⟨h1, h2, h3⟩ := mt_ok hm
  obtain ⟨hn, hc⟩ := uni_ok (l := spn rs) (fun u hu => (spn_ok h u hu).2)
  have hf := (rst_free hn b hb).2 s.1 (by dsimp only at h1; omega) (by dsimp only at h2; omega)
  rw [hc] at hf
  refine ⟨by dsimp only at h1; omega, h3, by dsimp only at h2; omega, ?_⟩
  have : ¬ 1 ≤ (onK rs s.1 rs.length).length := fun hp => by
    obtain ⟨j, hj, ho⟩ := (onK_some _).1 hp
    obtain ⟨p, q⟩ := onB_iff.1 ho
    exact hf ⟨_, getD_mem (l := spn rs) (j := j) (by rw [spn_len]; exact hj), p, q⟩
  exact List.eq_nil_of_length_eq_zero (by omega)
end Go.Proofs.YtmpgokijlikddaaGreatDoor
/- Slices of reigns that a call has made: how they lie, how one more is put behind, how one is stored. Conditions: that the slice owns its row of cells. -/
namespace Go.Proofs.YtmpgokijlikddaaGreatDoor
open Go.RowKit
/-- the cells of a list of reigns -/
def flatR : List RG → List Value
  | [] => []
  | s :: l => .string ⟨s.1.toArray⟩ :: .int .i64 s.2.1 :: .int .i64 s.2.2 :: flatR l
theorem flatR_len : ∀ l : List RG, (flatR l).length = l.length * 3
  | [] => rfl
  | s :: l => by simp only [flatR, List.length_cons, flatR_len l]; omega
theorem flatR_at : ∀ (l : List RG) (j : Nat), j < l.length → (flatR l)[j * 3]? = some (.string ⟨(l.getD j rg0).1.toArray⟩) ∧ (flatR l)[j * 3 + 1]? = some (.int .i64 (l.getD j rg0).2.1) ∧ (flatR l)[j * 3 + 2]? = some (.int .i64 (l.getD j rg0).2.2)
  | [], j, h => absurd h (Nat.not_lt_zero _)
  | s :: l, 0, _ => ⟨rfl, rfl, rfl⟩
  | s :: l, j + 1, h => by
    have := flatR_at l j (by simpa using h)
    rw [show (j + 1) * 3 = j * 3 + 1 + 1 + 1 from by omega, show j * 3 + 1 + 1 + 1 + 1 = j * 3 + 1 + 1 + 1 + 1 from rfl]
    simpa [flatR] using this
theorem flatR_app : ∀ (l m : List RG), flatR (l ++ m) = flatR l ++ flatR m
  | [], m => rfl
  | s :: l, m => by simp [flatR, flatR_app l m]
theorem flatR_set : ∀ (l : List RG) (j : Nat) (x : RG), j < l.length → (((flatR l).set (j * 3) (.string ⟨x.1.toArray⟩)).set (j * 3 + 1) (.int .i64 x.2.1)).set (j * 3 + 2) (.int .i64 x.2.2) = flatR (l.set j x)
  | [], j, x, h => absurd h (Nat.not_lt_zero _)
  | s :: l, 0, x, _ => rfl
  | s :: l, j + 1, x, h => by
    have := flatR_set l j x (by simpa using h)
    rw [show (j + 1) * 3 = j * 3 + 1 + 1 + 1 from by omega]
    simp only [flatR, List.set_cons_succ, List.set_cons_succ, this]
theorem flatR_one : ∀ (l : List RG) (u : Value), u ∈ flatR l → u.oneCell' = true
  | [], u, h => by simp [flatR] at h
  | s :: l, u, h => by
    simp only [flatR, List.mem_cons] at h
    rcases h with rfl | rfl | rfl | h
    · rfl
    · rfl
    · rfl
    · exact flatR_one l u h
/-- the slice value v owns the reigns l, in a block from base on -/
def OwnR (w : World) (base : Nat) (v : Value) (l : List RG) : Prop := w.ownsRow base 90 3 v l.length (flatR l)
theorem OwnR.nil (w : World) (base : Nat) : OwnR w base (.slice none 0 0) [] := World.ownsRow_nil w base _ 3
theorem OwnR.mono {w : World} {b b' : Nat} {v : Value} {l : List RG} (h : OwnR w b v l) (hb : b' ≤ b) : OwnR w b' v l := World.ownsRow.mono h hb
theorem OwnR.lt {w : World} {b : Nat} {v : Value} {l : List RG} (h : OwnR w b v l) : ∀ k, v.ownBlock = some k → b ≤ k ∧ k < w.heap.size := World.ownsRow.lt h
theorem OwnR.kept {w w' : World} {b : Nat} {v : Value} {l : List RG} {row : Option Nat} (h : OwnR w b v l) (hg : w.grownBy w' row) (hne : v.ownBlock = none ∨ v.ownBlock ≠ row) : OwnR w' b v l := World.ownsRow.kept h hg hne
theorem OwnR.below {w w' : World} {b : Nat} {v : Value} {l : List RG} (h : OwnR w b v l) (hb : Below w.heap.size w w') : OwnR w' b v l :=
  h.kept (grown_of_below hb none) (by cases hv : v.ownBlock <;> simp)
theorem OwnR.drewN {w : World} {b : Nat} {v : Value} {l : List RG} (h : OwnR w b v l) (n : Nat) : OwnR (w.drewN n) b v l := h
theorem OwnR.drew {w : World} {b : Nat} {v : Value} {l : List RG} (h : OwnR w b v l) : OwnR w.drew b v l := h
theorem OwnR.alloc {w : World} {b : Nat} {v : Value} {l : List RG} (h : OwnR w b v l) (o : Obj) : OwnR (w.alloc o) b v l := World.ownsRow.alloc h o
theorem OwnR.to {w : World} {b : Nat} {v : Value} {l m : List RG} (h : OwnR w b v l) (e : l = m) : OwnR w b v m := e ▸ h
theorem OwnR.opened {w : World} {b : Nat} {v : Value} {l : List RG} (h : OwnR w b v l) :
    l.length ≤ 9223372036854775807 ∧ ∃ A c, v = .slice A l.length c ∧ (0 < l.length → ∃ g, A = some ⟨g, 0, none⟩ ∧ b ≤ g ∧ RowR w g l.length l ∧ (∀ j, w.frozen? ⟨g, j, none⟩ = false)) := by
  rcases h.2 with ⟨rfl, hn⟩ | ⟨g, cap, cur, rfl, hbase, hblk, hnc, hcm, hsz, htk⟩
  · exact ⟨by omega, none, 0, by rw [hn], fun hp => absurd hp (by omega)⟩
  · refine ⟨by unfold maxLen at hcm; omega, _, cap, rfl, fun hp => ⟨g, rfl, hbase, fun _ => ⟨(World.ownsRow.lt h g rfl).2, fun j hj => ?_⟩, fun j => World.ownsRow.frozenAt h j⟩⟩
    have h0 := World.ownsRow.cellAt (n := l.length) (size := 3) h (j * 3) (by omega)
    have h1 := World.ownsRow.cellAt (n := l.length) (size := 3) h (j * 3 + 1) (by omega)
    have h2 := World.ownsRow.cellAt (n := l.length) (size := 3) h (j * 3 + 2) (by omega)
    obtain ⟨a, b, c⟩ := flatR_at l j hj
    exact ⟨h0.trans a, h1.trans b, h2.trans c⟩
theorem OwnR.snoc {w : World} {b : Nat} {v : Value} {l : List RG} {s : RG} (h : w.ownsRow b 90 3 v (l.length + 1) (flatR l ++ [.string ⟨s.1.toArray⟩, .int .i64 s.2.1, .int .i64 s.2.2])) : OwnR w b v (l ++ [s]) := by
  unfold OwnR; rw [List.length_append, flatR_app]; exact h
theorem OwnR.setAt {w : World} {b g c n : Nat} {l : List RG} (h : OwnR w b (.slice (some ⟨g, 0, none⟩) n c) l) (hn : n = l.length) (j : Nat) (hj : j < l.length) (x : RG) :
    OwnR (((w.setCell ⟨g, j * 3, none⟩ (.string ⟨x.1.toArray⟩)).setCell ⟨g, j * 3 + 1, none⟩ (.int .i64 x.2.1)).setCell ⟨g, j * 3 + 2, none⟩ (.int .i64 x.2.2)) b (.slice (some ⟨g, 0, none⟩) n c) (l.set j x) ∧
    w.grownBy (((w.setCell ⟨g, j * 3, none⟩ (.string ⟨x.1.toArray⟩)).setCell ⟨g, j * 3 + 1, none⟩ (.int .i64 x.2.1)).setCell ⟨g, j * 3 + 2, none⟩ (.int .i64 x.2.2)) (some g) := by
  subst hn
  obtain ⟨a1, k1⟩ := World.ownsRow.stored h (j * 3) (.string ⟨x.1.toArray⟩)
  obtain ⟨a2, k2⟩ := World.ownsRow.stored a1 (j * 3 + 1) (.int .i64 x.2.1)
  obtain ⟨a3, k3⟩ := World.ownsRow.stored a2 (j * 3 + 2) (.int .i64 x.2.2)
  refine ⟨?_, grown_trans k1 (grown_trans k2 k3)⟩
  unfold OwnR
  rw [List.length_set, ← flatR_set l j x hj]
  exact a3
theorem infoRR : (Tryz.prog.info? 90).map (fun i => (i.zero, i.size, i.bytes)) = some (some (.agg #[.string ByteArray.empty, .int .i64 0, .int .i64 0]), 3, 32) := by kernel_rfl
/-- append(out, r) where out is a row of the call's own -/
theorem wpList_appR {ops : Array Oper} {rest : List Oper} {o : Oper} {a : Act} {Q : Exit → Act → World → Prop} (hgd : o.guard = none) (s x : Operand)
    (ho : o.op = .call { callee := .builtin .append, args := #[s, x], argTypes := #[24, 24] }) (wr : World) (base : Nat) (v : Value) (l : List RG) (y : RG)
    (hs : a.eval s = v) (hown : OwnR wr base v l) (g : Nat) (hg : g = wr.heap.size) (hx : a.eval x = .slice (some ⟨g, 0, none⟩) 1 1) (hlen : l.length ≤ 1000000) (hbase : base ≤ wr.heap.size)
    (h : ∀ v' w', OwnR w' base v' (l ++ [y]) → wr.grownBy w' v.ownBlock → wpList Tryz.prog ops Q rest (a.put o.dst v') w') :
    wpList Tryz.prog ops Q (o :: rest) a (wr.alloc (.cells #[.string ⟨y.1.toArray⟩, .int .i64 y.2.1, .int .i64 y.2.2] 90)) := by
  subst hg
  obtain ⟨i0, hi, hz0, hz1, hz2⟩ := info_parts infoRR
  refine wpList_append_own _ hgd s x 24 ho base 90 i0 (.agg #[.string ByteArray.empty, .int .i64 0, .int .i64 0]) 3 32 Tryz.underlying24 hi hz0 hz1 hz2 rfl (by decide) v l.length (flatR l) hs (World.ownsRow.alloc hown _)
    ⟨wr.heap.size, 0, none⟩ 1 1 [.string ⟨y.1.toArray⟩, .int .i64 y.2.1, .int .i64 y.2.2] hx rfl ?_ ?_ ?_ ?_ ?_ ?_
  · intro j u hu
    match j, hu with
    | 0, hu => simp at hu; subst hu; exact (Blk.new wr _ _).c0
    | 1, hu => simp at hu; subst hu; exact (Blk.new wr _ _).c1
    | 2, hu => simp at hu; subst hu; exact (Blk.new wr _ _).c2
    | j + 3, hu => simp at hu
  · intro u hu
    simp only [List.mem_cons, List.not_mem_nil, or_false] at hu
    rcases hu with rfl | rfl | rfl <;> rfl
  · unfold maxLen; omega
  · omega
  · simp; omega
  · intro v' w' hown' hgr _
    exact h v' w' (OwnR.snoc (s := y) hown') (grown_trans (World.grownBy_alloc wr _ _) hgr)
/-- the empty literal -/
theorem OwnR.lit0 (w : World) : OwnR (w.alloc (.cells #[] 90)) w.heap.size (.slice (some ⟨w.heap.size, 0, none⟩) 0 0) [] := World.ownsRow_lit w #[] 0 (Nat.le_refl _) (by unfold maxLen; omega) rfl
theorem OwnR.below_grown {B : Nat} {a w w' : World} {v : Value} {l : List RG} (hv : OwnR w B v l) (h : Below B a w) (hg : w.grownBy w' v.ownBlock) (hB : B ≤ w.heap.size) : Below B a w' :=
  h.grown hg hB fun k hk => (hv.lt k hk).1
end Go.Proofs.YtmpgokijlikddaaGreatDoor
