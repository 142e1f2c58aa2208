/- Texts put together: Void King. No condition beyond those that stand in each. -/
import Derived.Test.YtmpgokijlikddaaGreatDoorRl8
import Derived.Test.YtmpgokijlikddaaGreatDoorRl3
import Derived.Test.YtmpgokijlikddaaGreatDoorRl4
import Derived.Test.YtmpgokijlikddaaGreatDoorAreI
import Derived.Test.YtmpgokijlikddaaGreatDoorRegY
import Derived.Test.YtmpgokijlikddaaGreatDoorRl6
/- The days of no reign in a span: the program's and the reference's functions. Conditions: lengths that a machine can hold; how the list lies. -/
namespace Go.Proofs.YtmpgokijlikddaaGreatDoor
open Go.RowKit
/-- the code of reigns and two days -/
def ch2 (rs : List RG) (f t : Int) : Int := if areB rs then (if inB f 0 730499 then (if inB t 0 730499 then 0 else 2) else 2) else 1
theorem vd_1 {rs : List RG} {f t : Int} (h : ch2 rs f t = 1) : vdF rs f t = ([], 1) := by
  unfold ch2 at h; unfold vdF
  cases h1 : areB rs
  · rfl
  · cases h2 : inB f 0 730499 <;> cases h3 : inB t 0 730499 <;> simp [h1, h2, h3] at h
theorem vd_2 {rs : List RG} {f t : Int} (h : ch2 rs f t = 2) : vdF rs f t = ([], 2) := by
  unfold ch2 at h; unfold vdF
  cases h1 : areB rs
  · simp [h1] at h
  · cases h2 : inB f 0 730499 <;> cases h3 : inB t 0 730499 <;> simp [h1, h2, h3] at h ⊢
theorem vd_f {rs : List RG} {f t : Int} (h1 : areB rs = true) (_ : inB f 0 730499 = true) (_ : inB t 0 730499 = true) (h : ¬ f ≤ t) : vdF rs f t = ([], 2) := by
  unfold vdF; rw [if_pos h1, if_neg (fun h' => h h'.2.2)]
theorem vd_t {rs : List RG} {f t : Int} (h1 : areB rs = true) (h2 : inB f 0 730499 = true) (h3 : inB t 0 730499 = true) (h : f ≤ t) : vdF rs f t = (met1 (f, t) (rst 0 (uni (spn rs))), 0) := by
  unfold vdF; rw [if_pos h1, if_pos ⟨h2, h3, h⟩]
theorem i_without (b1 o1 c1 : Nat) (a : Sp) {b : Nat} {v : Value} {L : List Sp} (w : World) (h1 : b1 < w.heap.size) (a0 : w.cell? ⟨b1, o1, none⟩ = some (.int .i64 a.1)) (a1 : w.cell? ⟨b1, o1 + 1, none⟩ = some (.int .i64 a.2)) (h : OwnP w b v L) (hl : L.length ≤ 100000) (hb : ∀ s ∈ L, spB s) :
    Calls Tryz.prog 68 #[.slice (some ⟨b1, o1, none⟩) 1 c1, v] w fun e w' => ∃ v', e = .returned v' ∧ OwnP w' w.heap.size v' (met1 a (rst 0 L)) ∧ Below w.heap.size w w' := by
  have con := i_oth w h hl hb
  have hrl := rst_len L 0
  have con2 := fun (A : Option Addr) (c : Nat) (W : World) h1 a0 a1 hR => i_met b1 o1 c1 a A c (rst 0 L) W h1 a0 a1 hR (by omega)
  obtain ⟨R, hR⟩ : ∃ R, rst 0 L = R := ⟨_, rfl⟩
  rw [hR] at con con2 ⊢
  have CON := Lib.hid con
  have CON2 := Lib.hid con2
  clear con con2 h hb hR hrl hl
  have A0 := Lib.hid a0
  have A1 := Lib.hid a1
  clear a0 a1
  go_enter Tryz.func68, Tryz.ntmps68
  go_wp2_with fail
  refine CON.out.mono ?_
  rintro e w1 ⟨v1, rfl, V, L1⟩
  obtain ⟨_, A, c, rfl, _⟩ := V.opened
  have hz := L1.size
  go_wp2_with fail
  refine (CON2.out _ _ _ (by omega) ((L1.cell (p := ⟨b1, o1, none⟩) h1).trans A0.out) ((L1.cell (p := ⟨b1, o1 + 1, none⟩) h1).trans A1.out) (InP.of_own V)).mono ?_
  rintro e w2 ⟨v2, rfl, V2, L2, _⟩
  go_wp2_with fail
  go_ret
  exact ⟨_, rfl, V2.mono hz, below_step L1 L2⟩
theorem i_idx2 (g : Nat) (f t : Int) (w : World) (c0 : w.cell? ⟨g, 0, none⟩ = some (.int .i64 f)) (c1 : w.cell? ⟨g, 1, none⟩ = some (.int .i64 t)) : Calls Tryz.prog 187 #[.slice (some ⟨g, 0, none⟩) 2 2, .func (.func 133) #[] #[]] w fun e w' => e = .returned (.int .i64 (if inB f 0 730499 then (if inB t 0 730499 then -1 else 1) else 0)) ∧ w = w' := by
  have con := fun W => i_chk1 f W
  have con2 := fun W => i_chk1 t W
  obtain ⟨b, hb⟩ : ∃ b, inB f 0 730499 = b := ⟨_, rfl⟩
  obtain ⟨b', hb'⟩ : ∃ b', inB t 0 730499 = b' := ⟨_, rfl⟩
  rw [hb] at con ⊢
  rw [hb'] at con2 ⊢
  have CON := Lib.hid con
  have CON2 := Lib.hid con2
  clear con con2 hb hb'
  cases b with
  | false =>
    go_enter Tryz.func187, Tryz.ntmps187
    go_wp2_with fail
    go_loop [8] (fun i => i = .int .i64 0) (fun i => 1 - (intOf i).toNat)
    case atStart => rfl
    case round =>
      subst hrel
      go_wp2_with fail
      refine (CON.out _).mono ?_
      rintro e w1 ⟨rfl, rfl⟩
      go_wp2_with fail
      go_ret
      exact ⟨rfl, rfl⟩
  | true =>
    cases b' with
    | false =>
      go_enter Tryz.func187, Tryz.ntmps187
      go_wp2_with fail
      go_loop [8] (fun i => ∃ k : Nat, k ≤ 1 ∧ i = .int .i64 k) (fun i => 2 - (intOf i).toNat)
      case atStart => exact ⟨0, by omega, rfl⟩
      case round =>
        obtain ⟨k, hk, rfl⟩ := hrel
        by_cases h0 : k = 0
        · subst h0
          go_wp2_with fail
          refine (CON.out _).mono ?_
          rintro e w1 ⟨rfl, rfl⟩
          go_wp2_with fail
          go_round
          case rel => exact ⟨1, by omega, by go_num⟩
          case measure => simp [intOf]
        · obtain rfl : k = 1 := by omega
          go_wp2_with fail
          refine (CON2.out _).mono ?_
          rintro e w1 ⟨rfl, rfl⟩
          go_wp2_with fail
          go_ret
          exact ⟨rfl, rfl⟩
    | true =>
      go_enter Tryz.func187, Tryz.ntmps187
      go_wp2_with fail
      go_loop [8] (fun i => ∃ k : Nat, k ≤ 2 ∧ i = .int .i64 k) (fun i => 2 - (intOf i).toNat)
      case atStart => exact ⟨0, by omega, rfl⟩
      case round =>
        obtain ⟨k, hk, rfl⟩ := hrel
        by_cases h0 : k = 0
        · subst h0
          go_wp2_with fail
          refine (CON.out _).mono ?_
          rintro e w1 ⟨rfl, rfl⟩
          go_wp2_with fail
          go_round
          case rel => exact ⟨1, by omega, by go_num⟩
          case measure => simp [intOf]
        · by_cases h1 : k = 1
          · subst h1
            go_wp2_with fail
            refine (CON2.out _).mono ?_
            rintro e w1 ⟨rfl, rfl⟩
            go_wp2_with fail
            go_round
            case rel => exact ⟨2, by omega, by go_num⟩
            case measure => simp [intOf]
          · obtain rfl : k = 2 := by omega
            go_wp2_with fail
            go_ret
            exact ⟨rfl, rfl⟩
theorem i_chk2 (g c gd : Nat) (rs : List RG) (f t : Int) (w : World) (hR : RowR w g rs.length rs) (hn : rs.length ≤ 1048576) (hok : ∀ i, rgOk (rs.getD i rg0)) (hd : gd < w.heap.size) (c0 : w.cell? ⟨gd, 0, none⟩ = some (.int .i64 f)) (c1 : w.cell? ⟨gd, 1, none⟩ = some (.int .i64 t)) :
    Calls Tryz.prog 66 #[.slice (some ⟨g, 0, none⟩) rs.length c, .slice (some ⟨gd, 0, none⟩) 2 2] w fun e w' => e = .returned (.int .i64 (ch2 rs f t)) ∧ Below w.heap.size w w' := by
  have con := i_AreReigns g c rs w hR hn hok
  have con2 := fun W h1 h2 => i_idx2 gd f t W h1 h2
  unfold ch2
  obtain ⟨n, hnn⟩ : ∃ n, rs.length = n := ⟨_, rfl⟩
  rw [hnn] at con
  cases h1 : areB rs with
  | false =>
    rw [h1] at con
    have CON := Lib.hid con
    clear con con2
    rw [hnn]
    go_enter Tryz.func66, Tryz.ntmps66
    go_wp2_with fail
    refine CON.out.mono ?_
    rintro e w1 ⟨rfl, hb⟩
    go_wp2_with fail
    go_ret
    exact ⟨rfl, hb⟩
  | true =>
    rw [h1] at con
    obtain ⟨r, hr⟩ : ∃ r : Int, (if inB f 0 730499 then (if inB t 0 730499 then (-1 : Int) else 1) else 0) = r := ⟨_, rfl⟩
    have hres : (r = -1 ∧ (if inB f 0 730499 then (if inB t 0 730499 then (0 : Int) else 2) else 2) = 0) ∨ ((r = 0 ∨ r = 1) ∧ (if inB f 0 730499 then (if inB t 0 730499 then (0 : Int) else 2) else 2) = 2) := by
      cases h2 : inB f 0 730499 <;> cases h3 : inB t 0 730499 <;> simp [h2, h3] at hr ⊢ <;> omega
    rw [hr] at con2
    rw [if_pos rfl]
    have CON := Lib.hid con
    have CON2 := Lib.hid con2
    have C0 := Lib.hid c0
    have C1 := Lib.hid c1
    clear con con2 hr c0 c1
    obtain ⟨R, hR⟩ : ∃ R : Int, (if inB f 0 730499 then (if inB t 0 730499 then (0 : Int) else 2) else 2) = R := ⟨_, rfl⟩
    rw [hR] at hres ⊢
    clear hR
    rw [hnn]
    rcases hres with ⟨rfl, rfl⟩ | ⟨rfl | rfl, rfl⟩
    all_goals
      go_enter Tryz.func66, Tryz.ntmps66
      go_wp2_with fail
      refine CON.out.mono ?_
      rintro e w1 ⟨rfl, hb⟩
      have d0 := (hb.cell (p := ⟨gd, 0, none⟩) hd).trans C0.out
      have d1 := (hb.cell (p := ⟨gd, 1, none⟩) hd).trans C1.out
      go_wp2_with (go_at_call 132; go_in)
      refine (CON2.out _ d0 d1).mono ?_
      rintro e w2 ⟨rfl, rfl⟩
      go_wp2_with fail
      go_ret
      exact ⟨rfl, hb⟩
set_option maxRecDepth 100000 in
set_option maxHeartbeats 1000000 in
theorem i_VoidDays (g c : Nat) (rs : List RG) (f t : Int) (w : World) (hR : RowR w g rs.length rs) (hn : rs.length ≤ 1048576) (hok : ∀ i, rgOk (rs.getD i rg0)) (hg : g < w.heap.size) :
    Calls Tryz.prog 9 #[.slice (some ⟨g, 0, none⟩) rs.length c, .int .i64 f, .int .i64 t] w fun e w' => ∃ v, e = .returned (.tuple #[v, .int .i64 (vdF rs f t).2]) ∧ OwnP w' w.heap.size v (vdF rs f t).1 ∧ Below w.heap.size w w' := by
  have con := fun gd W h1 h2 h3 h4 => i_chk2 g c gd rs f t W h1 hn hok h2 h3 h4
  have hA := (below_alloc w (.cells #[.int .i64 f, .int .i64 t] 2))
  have hR1 := Lib.hid (hR.below hA hg)
  have hz1 : w.heap.size ≤ (w.alloc (.cells #[.int .i64 f, .int .i64 t] 2)).heap.size := by simp
  have hcase : (areB rs = true ∧ inB f 0 730499 = true ∧ inB t 0 730499 = true ∧ ch2 rs f t = 0) ∨ (∃ k, ch2 rs f t = k ∧ (k = 1 ∨ k = 2) ∧ vdF rs f t = ([], k)) := by
    cases h1 : areB rs
    · exact .inr ⟨1, by simp [ch2, h1], .inl rfl, vd_1 (by simp [ch2, h1])⟩
    · cases h2 : inB f 0 730499
      · exact .inr ⟨2, by simp [ch2, h1, h2], .inr rfl, vd_2 (by simp [ch2, h1, h2])⟩
      · cases h3 : inB t 0 730499
        · exact .inr ⟨2, by simp [ch2, h1, h2, h3], .inr rfl, vd_2 (by simp [ch2, h1, h2, h3])⟩
        · exact .inl ⟨rfl, rfl, rfl, by simp [ch2, h1, h2, h3]⟩
  rcases hcase with ⟨h1, h2, h3, hc⟩ | ⟨k, hc, hk, hv⟩
  · rw [hc] at con
    by_cases hft : f ≤ t
    · rw [vd_t h1 h2 h3 hft]
      have hn30 := (are_open h1).1
      have con2 := fun W (h : RowR W g rs.length rs) => i_spns g c rs W h (by omega)
      have con3 := fun (W : World) (b : Nat) (v : Value) (h : OwnP W b v (spn rs)) => i_united W h (by rw [spn_len]; omega) (spn_bd h1) (fun s hs => (spn_ok h1 s hs).2)
      have hul := spn_uni_len h1
      have con4 := fun (W : World) (b b1 o1 c1 : Nat) (v : Value) h1 a0 a1 (h : OwnP W b v (uni (spn rs))) => i_without b1 o1 c1 (f, t) W h1 a0 a1 h (by omega) (uni_bd (spn_bd ‹areB rs = true›))
      have hml : (met1 (f, t) (rst 0 (uni (spn rs)))).length ≤ 300 := by
        have a1 := rst_len (uni (spn rs)) 0
        have a2 := met1_len (f, t) (rst 0 (uni (spn rs)))
        omega
      obtain ⟨M, hM⟩ : ∃ M, met1 (f, t) (rst 0 (uni (spn rs))) = M := ⟨_, rfl⟩
      rw [hM] at con4 hml ⊢
      obtain ⟨U, hU⟩ : ∃ U, uni (spn rs) = U := ⟨_, rfl⟩
      rw [hU] at con3 con4
      obtain ⟨S, hS⟩ : ∃ S, spn rs = S := ⟨_, rfl⟩
      rw [hS] at con2 con3
      have con5 := fun (W : World) (b : Nat) (v : Value) (h : OwnP W b v M) => i_lim W h hml
      have CON := Lib.hid con
      have CON2 := Lib.hid con2
      have CON3 := Lib.hid con3
      have CON4 := Lib.hid con4
      have CON5 := Lib.hid con5
      clear con con2 con3 con4 con5 hul hml hM hU hS h1 h2 h3 hc hR
      obtain ⟨n, hnn⟩ : ∃ n, rs.length = n := ⟨_, rfl⟩
      rw [hnn] at CON CON2 hR1 ⊢
      clear hnn hn hn30 hok
      go_enter Tryz.func9, Tryz.ntmps9
      go_wp2_with fail
      refine (CON.out _ _ hR1.out (by simp) (Blk.new w _ _).c0 (Blk.new w _ _).c1).mono ?_
      rintro e w1 ⟨rfl, hb⟩
      have L1 := hA.trans (hb.mono hz1)
      have hA2 := (below_alloc w1 (.cells #[.int .i64 f, .int .i64 t] 47))
      have hzb := hb.size
      have hR2 := Lib.hid ((hR1.out.below hb (by omega)).below hA2 (by omega))
      have L2 := L1.trans (hA2.mono L1.size)
      have B := Blk.new w1 47 #[.int .i64 f, .int .i64 t]
      go_wp2_with fail
      refine (CON2.out _ hR2.out).mono ?_
      rintro e w2 ⟨v2, rfl, o2, hb2⟩
      have L3 := below_step L2 hb2
      replace B := B.below hb2 (by simp)
      have hz2 := hb2.size
      go_wp2_with fail
      refine (CON3.out _ _ _ o2).mono ?_
      rintro e w3 ⟨v3, rfl, o3, hb3⟩
      have L4 := below_step L3 hb3
      have hz3 := hb3.size
      have hk1 : w1.heap.size < w2.heap.size := by simp at hz2; omega
      replace B := B.below hb3 hk1
      go_wp2_with fail
      refine (CON4.out _ _ _ 0 _ _ (by omega) B.c0 B.c1 o3).mono ?_
      rintro e w4 ⟨v4, rfl, o4, hb4⟩
      have L5 := below_step L4 hb4
      go_wp2_with fail
      refine (CON5.out _ _ _ o4).mono ?_
      rintro e w5 ⟨rfl, rfl⟩
      go_wp2_with fail
      go_ret2
      exact ⟨_, rfl, o4.mono L4.size, L5⟩
    · rw [vd_f h1 h2 h3 hft]
      have hlt : t < f := by omega
      have CON := Lib.hid con
      clear con h1 h2 h3 hc hft
      go_enter Tryz.func9, Tryz.ntmps9
      go_wp2_with fail
      refine (CON.out _ _ hR1.out (by simp) (Blk.new w _ _).c0 (Blk.new w _ _).c1).mono ?_
      rintro e w1 ⟨rfl, hb⟩
      have L1 := hA.trans (hb.mono hz1)
      go_wp2_with fail
      go_ret2
      exact ⟨_, rfl, OwnP.nil _ _, L1⟩
  · rw [hv]
    rw [hc] at con
    have CON := Lib.hid con
    clear con hc hv
    rcases hk with rfl | rfl
    all_goals
      go_enter Tryz.func9, Tryz.ntmps9
      go_wp2_with fail
      refine (CON.out _ _ hR1.out (by simp) (Blk.new w _ _).c0 (Blk.new w _ _).c1).mono ?_
      rintro e w1 ⟨rfl, hb⟩
      have L1 := hA.trans (hb.mono hz1)
      go_wp2_with fail
      go_ret2
      exact ⟨_, rfl, OwnP.nil _ _, L1⟩
set_option maxRecDepth 100000 in
set_option maxHeartbeats 1000000 in
theorem s_VoidDays (g c : Nat) (rs : List RG) (f t : Int) (w : World) (hR : RowR w g rs.length rs) (hn : rs.length ≤ 1048576) (hok : ∀ i, rgOk (rs.getD i rg0)) (hg : g < w.heap.size) :
    Calls Tryz.prog 10 #[.slice (some ⟨g, 0, none⟩) rs.length c, .int .i64 f, .int .i64 t] w fun e w' => ∃ v, e = .returned (.tuple #[v, .int .i64 (vdF rs f t).2]) ∧ OwnP w' w.heap.size v (vdF rs f t).1 ∧ Below w.heap.size w w' := by
  have con := s_AreReigns g c rs w hR hn hok
  have HR := Lib.hid hR
  cases h1 : areB rs with
  | false =>
    rw [vd_1 (by simp [ch2, h1])]
    rw [h1] at con
    have CON := Lib.hid con
    clear con
    go_enter Tryz.func10, Tryz.ntmps10
    go_wp2_with fail
    refine CON.out.mono ?_
    rintro e w1 ⟨rfl, hb⟩
    go_wp2_with fail
    go_ret2
    exact ⟨_, rfl, OwnP.nil _ _, hb⟩
  | true =>
    rw [h1] at con
    have CON := Lib.hid con
    clear con
    cases h2 : inB f 0 730499 with
    | false =>
      rw [vd_2 (by simp [ch2, h1, h2])]
      have SF := Lib.hid (fun W => toB (s_day f W) h2)
      clear h1 h2
      go_enter Tryz.func10, Tryz.ntmps10
      go_wp2_with fail
      refine CON.out.mono ?_
      rintro e w1 ⟨rfl, hb⟩
      go_wp2_with fail
      refine (SF.out _).mono ?_
      rintro e w2 ⟨rfl, rfl⟩
      go_wp2_with fail
      go_ret2
      exact ⟨_, rfl, OwnP.nil _ _, hb⟩
    | true =>
      have SF := Lib.hid (fun W => toB (s_day f W) h2)
      cases h3 : inB t 0 730499 with
      | false =>
        rw [vd_2 (by simp [ch2, h1, h2, h3])]
        have ST := Lib.hid (fun W => toB (s_day t W) h3)
        clear h1 h2 h3
        go_enter Tryz.func10, Tryz.ntmps10
        go_wp2_with fail
        refine CON.out.mono ?_
        rintro e w1 ⟨rfl, hb⟩
        go_wp2_with fail
        refine (SF.out _).mono ?_
        rintro e w2 ⟨rfl, rfl⟩
        go_wp2_with fail
        refine (ST.out _).mono ?_
        rintro e w2 ⟨rfl, rfl⟩
        go_wp2_with fail
        go_ret2
        exact ⟨_, rfl, OwnP.nil _ _, hb⟩
      | true =>
        have ST := Lib.hid (fun W => toB (s_day t W) h3)
        by_cases hft : f ≤ t
        · rw [vd_t h1 h2 h3 hft]
          have hn30 := (are_open h1).1
          have con2 := fun W (h : RowR W g rs.length rs) => s_times1 g c rs W h h1
          rw [tim_spn h1] at con2
          have hul := spn_uni_len h1
          have con3 := fun (W : World) (b : Nat) (v : Value) (h : OwnP W b v (uni (spn rs))) => s_oth W h (by omega) (uni_bd (spn_bd h1))
          have hrl := rst_len (uni (spn rs)) 0
          have con4 := fun (b1 o1 c1 : Nat) (A : Option Addr) (cc : Nat) (W : World) h1 a0 a1 hR => s_Meet b1 o1 c1 (f, t) A cc (rst 0 (uni (spn rs))) W h1 a0 a1 hR (by omega)
          obtain ⟨U, hU⟩ : ∃ U, uni (spn rs) = U := ⟨_, rfl⟩
          rw [hU] at con2 con3 con4 ⊢
          obtain ⟨R, hRR⟩ : ∃ R, rst 0 U = R := ⟨_, rfl⟩
          rw [hRR] at con3 con4 ⊢
          have CON2 := Lib.hid con2
          have CON3 := Lib.hid con3
          have CON4 := Lib.hid con4
          clear con2 con3 con4 hul hrl hU hRR h1 h2 h3 hR
          obtain ⟨n, hnn⟩ : ∃ n, rs.length = n := ⟨_, rfl⟩
          rw [hnn] at CON CON2 HR ⊢
          clear hnn hn hn30 hok
          have hle : ¬ t < f := by omega
          go_enter Tryz.func10, Tryz.ntmps10
          go_wp2_with fail
          refine CON.out.mono ?_
          rintro e w1 ⟨rfl, hb⟩
          have hA2 := (below_alloc w1 (.cells #[.int .i64 f, .int .i64 t] 47))
          have hzb := hb.size
          have hR2 := Lib.hid ((HR.out.below hb hg).below hA2 (by omega))
          have L2 := hb.trans (hA2.mono hzb)
          have B := Blk.new w1 47 #[.int .i64 f, .int .i64 t]
          go_wp2_with fail
          refine (SF.out _).mono ?_
          rintro e w2 ⟨rfl, rfl⟩
          go_wp2_with fail
          refine (ST.out _).mono ?_
          rintro e w2 ⟨rfl, rfl⟩
          go_wp2_with fail
          refine (CON2.out _ hR2.out).mono ?_
          rintro e w2 ⟨v2, rfl, o2, hb2⟩
          have L3 := below_step L2 hb2
          replace B := B.below hb2 (by simp)
          have hz2 := hb2.size
          go_wp2_with fail
          refine (CON3.out _ _ _ o2).mono ?_
          rintro e w3 ⟨v3, rfl, o3, hb3⟩
          have L4 := below_step L3 hb3
          have hz3 := hb3.size
          have hk1 : w1.heap.size < w2.heap.size := by simp at hz2; omega
          replace B := B.below hb3 hk1
          obtain ⟨_, A, cc, rfl, _⟩ := o3.opened
          go_wp2_with fail
          refine (CON4.out _ 0 _ _ _ _ (by omega) B.c0 B.c1 (InP.of_own o3)).mono ?_
          rintro e w4 ⟨v4, rfl, o4, hb4, _⟩
          have L5 := below_step L4 hb4
          go_wp2_with fail
          go_ret2
          exact ⟨_, rfl, o4.mono L4.size, L5⟩
        · rw [vd_f h1 h2 h3 hft]
          have hlt : t < f := by omega
          clear h1 h2 h3 hft
          go_enter Tryz.func10, Tryz.ntmps10
          go_wp2_with fail
          refine CON.out.mono ?_
          rintro e w1 ⟨rfl, hb⟩
          go_wp2_with fail
          refine (SF.out _).mono ?_
          rintro e w2 ⟨rfl, rfl⟩
          go_wp2_with fail
          refine (ST.out _).mono ?_
          rintro e w2 ⟨rfl, rfl⟩
          go_wp2_with fail
          go_ret2
          exact ⟨_, rfl, OwnP.nil _ _, hb⟩
end Go.Proofs.YtmpgokijlikddaaGreatDoor
/- The years of a king: the program's and the reference's functions return what the plain function says. Conditions: lengths that a machine can hold; how the list lies. -/
namespace Go.Proofs.YtmpgokijlikddaaGreatDoor
open Go.RowKit
theorem str_ne {x y : List UInt8} (h : ¬ x = y) : ¬ (⟨x.toArray⟩ : ByteArray) = ⟨y.toArray⟩ := fun e => h (by injection e with e; simpa using e)
set_option maxRecDepth 100000 in
set_option maxHeartbeats 2000000 in
theorem s_king7 (g c : Nat) (rs : List RG) (x : List UInt8) (m : Int) (w : World) (hR : RowR w g rs.length rs) (hA : areB rs = true) (m0 : 1 ≤ m) : Calls Tryz.prog 87 #[.slice (some ⟨g, 0, none⟩) rs.length c, .string ⟨x.toArray⟩, .int .i64 m] w fun e w' => ∃ v, e = .returned v ∧ OwnP w' w.heap.size v (uni (kyT rs x m rs.length)) ∧ Below w.heap.size w w' := by
  obtain ⟨hn, hop⟩ := are_open hA
  have hk := kyT_ok (x := x) hA m0 rs.length (Nat.le_refl _)
  have hkl := kyT_len rs x m rs.length
  have MK := Lib.hid (fun (B : Nat) (v : Value) (W : World) (hV : OwnP W B v (kyT rs x m rs.length)) => s_Make W hV (by omega) (fun s hs => (hk s hs).1))
  have HO := Lib.hid hop
  have HR := Lib.hid hR
  have HT := Lib.hid (fun j => @kyT_T rs x m j)
  have HX := Lib.hid (fun j => @kyT_x rs x m j)
  have HF := Lib.hid (fun j => @kyT_o rs x m j)
  have HL := Lib.hid (kyT_len rs x m)
  clear hR hop hk hkl
  obtain ⟨n, hnn⟩ : ∃ n, rs.length = n := ⟨_, rfl⟩
  rw [hnn] at HR HO hn MK ⊢
  clear hnn hA
  go_enter Tryz.func87, Tryz.ntmps87
  go_wp2_with fail
  go_loopw [7, 8] (fun o i wr => ∃ k : Nat, k ≤ n ∧ i = .int .i64 k ∧ OwnP wr w.heap.size o (kyT rs x m k) ∧ Below w.heap.size w wr) (fun _ i _ => n - (intOf i).toNat)
  case atStart => exact ⟨0, by omega, rfl, OwnP.lit0 w, below_alloc _ _⟩
  case round =>
    obtain ⟨k, hk, rfl, V, L⟩ := hrel
    have hw := L.size
    by_cases hlt : k < n
    · obtain ⟨hg, hc⟩ := HR.out (by omega)
      obtain ⟨h0, h1, h2⟩ := hc k hlt
      have c0 := (L.cell (p := ⟨g, k * 3, none⟩) hg).trans h0
      have c1 := (L.cell (p := ⟨g, k * 3 + 1, none⟩) hg).trans h1
      have c2 := (L.cell (p := ⟨g, k * 3 + 2, none⟩) hg).trans h2
      have hgw : g < wr.heap.size := Nat.lt_of_lt_of_le hg hw
      obtain ⟨o0, o1, o2⟩ := HO.out k hlt
      have hT := HT.out k
      have hX := HX.out k
      have hF := HF.out k
      have hlen := HL.out k
      obtain ⟨p, hp⟩ : ∃ p, rs.getD k rg0 = p := ⟨_, rfl⟩
      rw [hp] at c0 c1 c2 h0 o0 o1 o2 hT hX hF
      obtain ⟨y, f, t⟩ := p
      dsimp only at c0 c1 c2 h0 o0 o1 o2 hT hX hF
      have C0 := Lib.hid h0
      have con := fun W => s_span7 ⟨y.toArray⟩ f t m W o0 o1 o2 m0
      obtain ⟨q, hq⟩ : ∃ q, rsp f t m = q := ⟨_, rfl⟩
      rw [hq] at con hT hF
      obtain ⟨⟨qa, qb⟩, qo⟩ := q
      dsimp only at con hT hF
      have CON := Lib.hid con
      clear con hc h0 h1 h2 hp hq
      have HTT := Lib.hid hT
      have HXX := Lib.hid hX
      have HFF := Lib.hid hF
      clear hT hX hF
      go_wp2_with fail
      refine (CON.out _).mono ?_
      rintro e w2 ⟨rfl, hb⟩
      have L2 := below_step L hb
      have hw2 := L2.size
      have V3 := (V.below hb).alloc (.cells #[.int .i64 qa, .int .i64 qb] 47)
      have L3 := below_more L2 hw2 (.cells #[.int .i64 qa, .int .i64 qb] 47)
      have hL3 := L3.size
      have X := Blk.new w2 47 #[.int .i64 qa, .int .i64 qb]
      have x0 := X.c0
      have x1 := X.c1
      replace c0 := (L3.cell (p := ⟨g, k * 3, none⟩) hg).trans C0.out
      have hgw2 : g < w2.heap.size + 1 := by have := hb.size; omega
      clear c1 c2 L V hgw hb CON X L2
      by_cases hyx : y = x
      · subst hyx
        cases qo with
        | true =>
          have HK := Lib.hid (HTT.out rfl rfl)
          clear HTT HXX HFF
          go_wp2_with (at_builtin; refine wpList_appP rfl _ _ rfl _ _ _ _ _ _ rfl V3 _ (by simp) rfl (by omega) hL3 ?_; intro v2 w3 V2 hg2)
          go_roundw
          case rel => exact ⟨k + 1, by omega, by go_num, by rw [HK.out]; exact V2, V3.below_grown L3 hg2 hL3⟩
          case measure => simp [intOf]; omega
        | false =>
          have HK := Lib.hid (HFF.out rfl)
          clear HTT HXX HFF
          go_wp2_with fail
          go_roundw
          case rel => exact ⟨k + 1, by omega, by go_num, by rw [HK.out]; exact V3, L3⟩
          case measure => simp [intOf]; omega
      · have HK := Lib.hid (HXX.out hyx)
        have hne := str_ne hyx
        have hne2 : decide (y = x) = false := by simpa using hyx
        have hne3 : decide ((⟨y.toArray⟩ : ByteArray) = ⟨x.toArray⟩) = false := by simpa using hyx
        clear HTT HXX HFF
        go_wp2_with fail
        go_roundw
        case rel => exact ⟨k + 1, by omega, by go_num, by rw [HK.out]; exact V3, L3⟩
        case measure => simp [intOf]; omega
    · obtain rfl : k = n := by omega
      go_wp2_with fail
      refine (MK.out _ _ _ V).mono ?_
      rintro e w2 ⟨v, rfl, ho, hb⟩
      go_wp2_with fail
      go_ret
      exact ⟨_, rfl, ho.mono L.size, below_step L hb⟩
set_option maxRecDepth 100000 in
set_option maxHeartbeats 1000000 in
theorem s_KingYearSet (g c : Nat) (rs : List RG) (x : ByteArray) (m : Int) (_ : (Lit.int .i64 m).wf = true) (w : World) (hR : RowR w g rs.length rs) (hn : rs.length ≤ 1048576) (hok : ∀ i, rgOk (rs.getD i rg0)) (hg : g < w.heap.size) :
    Calls Tryz.prog 20 #[.slice (some ⟨g, 0, none⟩) rs.length c, .string x, .int .i64 m] w fun e w' => ∃ v, e = .returned (.tuple #[v, .int .i64 (kyF rs x.data.toList m).2]) ∧ OwnP w' w.heap.size v (kyF rs x.data.toList m).1 ∧ Below w.heap.size w w' := by
  have con := s_AreReigns g c rs w hR hn hok
  have con2 := fun W (h : RowR W g rs.length rs) h1 h2 => s_king7 g c rs x.data.toList m W h h1 h2
  have hF : kyF rs x.data.toList m = if areB rs then (if m < 1 then ([], 2) else if kyT rs x.data.toList m rs.length = [] then ([], 4) else (uni (kyT rs x.data.toList m rs.length), 0)) else ([], 1) := rfl
  rw [hF]
  clear hF
  have hun : uni (kyT rs x.data.toList m rs.length) = [] ↔ kyT rs x.data.toList m rs.length = [] := uni_nil_iff
  obtain ⟨U, hU⟩ : ∃ U, uni (kyT rs x.data.toList m rs.length) = U := ⟨_, rfl⟩
  obtain ⟨K, hK⟩ : ∃ K, kyT rs x.data.toList m rs.length = K := ⟨_, rfl⟩
  rw [hU] at hun con2 ⊢
  rw [hK] at hun ⊢
  clear hU hK
  have HR := Lib.hid hR; clear hR
  obtain ⟨n, hnn⟩ : ∃ n, rs.length = n := ⟨_, rfl⟩
  rw [hnn] at con con2 HR hn ⊢
  clear hnn
  cases h1 : areB rs with
  | false =>
    rw [h1] at con
    rw [if_neg (by decide)]
    have CON := Lib.hid con
    clear con con2 hun
    go_enter Tryz.func20, Tryz.ntmps20
    go_wp2_with fail
    refine CON.out.mono ?_
    rintro e w1 ⟨rfl, hb⟩
    go_wp2_with fail
    go_ret2
    exact ⟨_, rfl, OwnP.nil _ _, hb⟩
  | true =>
    rw [h1] at con
    rw [if_pos rfl]
    by_cases hm : m < 1
    · rw [if_pos hm]
      have CON := Lib.hid con
      clear con con2 hun
      go_enter Tryz.func20, Tryz.ntmps20
      go_wp2_with fail
      refine CON.out.mono ?_
      rintro e w1 ⟨rfl, hb⟩
      go_wp2_with fail
      go_ret2
      exact ⟨_, rfl, OwnP.nil _ _, hb⟩
    · rw [if_neg hm]
      have hm1 : 1 ≤ m := by omega
      have con3 := fun W h => con2 W h h1 hm1
      have CON := Lib.hid con
      have CON3 := Lib.hid con3
      clear con con2 con3 hm h1
      by_cases hK : K = []
      · rw [if_pos hK]
        have hU := hun.2 hK
        subst hU
        clear hun hK
        go_enter Tryz.func20, Tryz.ntmps20
        go_wp2_with fail
        refine CON.out.mono ?_
        rintro e w1 ⟨rfl, hb⟩
        have hR1 := HR.out.below hb hg
        go_wp2_with fail
        refine (CON3.out _ hR1).mono ?_
        rintro e w2 ⟨v, rfl, ho, hb2⟩
        have L2 := below_step hb hb2
        obtain ⟨_, A, cc, rfl, _⟩ := ho.opened
        rw [show ([] : List Sp).length = 0 from rfl]
        clear ho
        go_wp2_with fail
        go_ret2
        exact ⟨_, rfl, OwnP.nil _ _, L2⟩
      · rw [if_neg hK]
        have hU : ¬ U = [] := fun h => hK (hun.1 h)
        have hl0 : 0 < U.length := List.length_pos_iff.2 hU
        clear hun hU hK
        go_enter Tryz.func20, Tryz.ntmps20
        go_wp2_with fail
        refine CON.out.mono ?_
        rintro e w1 ⟨rfl, hb⟩
        have hR1 := HR.out.below hb hg
        go_wp2_with fail
        refine (CON3.out _ hR1).mono ?_
        rintro e w2 ⟨v, rfl, ho, hb2⟩
        have L2 := below_step hb hb2
        have ho2 := ho.mono hb.size
        obtain ⟨_, A, cc, rfl, _⟩ := ho.opened
        clear ho
        have HO := Lib.hid ho2
        obtain ⟨q, hq⟩ : ∃ q, U.length = q := ⟨_, rfl⟩
        rw [hq] at hl0 HO ⊢
        have hq0 : ¬ (q : Int) = 0 := by omega
        clear ho2 hq
        go_wp2_with fail
        go_ret2
        exact ⟨_, rfl, HO.out, L2⟩
set_option maxRecDepth 100000 in
set_option maxHeartbeats 2000000 in
theorem i_KingYearSet (g c : Nat) (rs : List RG) (x : ByteArray) (m : Int) (wm : (Lit.int .i64 m).wf = true) (w : World) (hR : RowR w g rs.length rs) (hn : rs.length ≤ 1048576) (hok : ∀ i, rgOk (rs.getD i rg0)) (hg : g < w.heap.size) :
    Calls Tryz.prog 19 #[.slice (some ⟨g, 0, none⟩) rs.length c, .string x, .int .i64 m] w fun e w' => ∃ v, e = .returned (.tuple #[v, .int .i64 (kyF rs x.data.toList m).2]) ∧ OwnP w' w.heap.size v (kyF rs x.data.toList m).1 ∧ Below w.heap.size w w' := by
  have con := i_AreReigns g c rs w hR hn hok
  have hF : kyF rs x.data.toList m = if areB rs then (if m < 1 then ([], 2) else if kyT rs x.data.toList m rs.length = [] then ([], 4) else (uni (kyT rs x.data.toList m rs.length), 0)) else ([], 1) := rfl
  have HU30 := Lib.hid (kyF_len rs x.data.toList m)
  rw [hF] at HU30 ⊢
  clear hF
  have HR := Lib.hid hR; clear hR
  have m9 : m ≤ 9223372036854775807 := (Go.bounds_i64 wm).2
  obtain ⟨xl, rfl⟩ : ∃ xl : List UInt8, x = ⟨xl.toArray⟩ := ⟨x.data.toList, by cases x; simp⟩
  have hxl : (⟨xl.toArray⟩ : ByteArray).data.toList = xl := by simp
  rw [hxl] at HU30 ⊢
  clear hxl
  have HKL := Lib.hid (kyT_len rs xl m)
  have HKO := Lib.hid (fun h k => kyT_ok (x := xl) (k := m) (rs := rs) h k rs.length (Nat.le_refl _))
  have HT := Lib.hid (fun j => @kyT_T rs xl m j)
  have HX := Lib.hid (fun j => @kyT_x rs xl m j)
  have HF := Lib.hid (fun j => @kyT_o rs xl m j)
  have HO := Lib.hid (fun h => (are_open (rs := rs) h))
  obtain ⟨n, hnn⟩ : ∃ n, rs.length = n := ⟨_, rfl⟩
  rw [hnn] at con HR HO HKO HU30 hn ⊢
  clear hnn
  cases h1 : areB rs with
  | false =>
    rw [h1] at con
    rw [if_neg (by decide)]
    have CON := Lib.hid con
    clear con
    go_enter Tryz.func19, Tryz.ntmps19
    go_wp2_with fail
    refine CON.out.mono ?_
    rintro e w1 ⟨rfl, hb⟩
    go_wp2_with fail
    go_ret2
    exact ⟨_, rfl, OwnP.nil _ _, hb⟩
  | true =>
    rw [h1] at con
    rw [if_pos rfl]
    rw [h1, if_pos rfl] at HU30
    by_cases hm : m < 1
    · rw [if_pos hm]
      have CON := Lib.hid con
      clear con HU30
      go_enter Tryz.func19, Tryz.ntmps19
      go_wp2_with fail
      refine CON.out.mono ?_
      rintro e w1 ⟨rfl, hb⟩
      go_wp2_with fail
      go_ret2
      exact ⟨_, rfl, OwnP.nil _ _, hb⟩
    · rw [if_neg hm]
      rw [if_neg hm] at HU30
      have m0 : 1 ≤ m := by omega
      obtain ⟨G, hG⟩ : ∃ G, (if kyT rs xl m n = [] then (([] : List Sp), (4 : Int)) else (uni (kyT rs xl m n), 0)) = G := ⟨_, rfl⟩
      rw [hG] at HU30 ⊢
      have HG := Lib.hid hG
      clear hG
      have HKK := Lib.hid (HKO.out h1 m0)
      obtain ⟨hn30, hop⟩ := HO.out h1
      have HOP := Lib.hid hop
      have CON := Lib.hid con
      clear con hm h1 hop HO HKO
      go_enter Tryz.func19, Tryz.ntmps19
      go_wp2_with fail
      refine CON.out.mono ?_
      rintro e w0 ⟨rfl, hb0⟩
      have hR0 := Lib.hid (HR.out.below hb0 hg)
      have hz0 := hb0.size
      clear CON HR
      go_wp2_with fail
      go_loopw [8, 23] (fun o i wr => ∃ k : Nat, k ≤ n ∧ i = .int .i64 k ∧ OwnP wr w0.heap.size o (kyT rs xl m k) ∧ Below w0.heap.size w0 wr) (fun _ i _ => n - (intOf i).toNat)
      case atStart => exact ⟨0, by omega, rfl, OwnP.lit0 w0, below_alloc _ _⟩
      case round =>
        obtain ⟨k, hk, rfl, V, L⟩ := hrel
        have hw := L.size
        by_cases hlt : k < n
        · obtain ⟨hg0, hc⟩ := hR0.out (by omega)
          obtain ⟨h0, h1, h2⟩ := hc k hlt
          have c0 := (L.cell (p := ⟨g, k * 3, none⟩) hg0).trans h0
          have c1 := (L.cell (p := ⟨g, k * 3 + 1, none⟩) hg0).trans h1
          have c2 := (L.cell (p := ⟨g, k * 3 + 2, none⟩) hg0).trans h2
          have hgw : g < wr.heap.size := Nat.lt_of_lt_of_le hg0 hw
          obtain ⟨o0, o1, o2⟩ := HOP.out k hlt
          have hT := HT.out k
          have hX := HX.out k
          have hF := HF.out k
          have hlen := HKL.out k
          obtain ⟨p, hp⟩ : ∃ p, rs.getD k rg0 = p := ⟨_, rfl⟩
          rw [hp] at c0 c1 c2 o0 o1 o2 hT hX hF
          obtain ⟨y, f, t⟩ := p
          dsimp only at c0 c1 c2 o0 o1 o2 hT hX hF
          have con := fun W => i_span7 ⟨y.toArray⟩ f t m W o0 o1 o2 m0 m9
          obtain ⟨q, hq⟩ : ∃ q, rsp f t m = q := ⟨_, rfl⟩
          rw [hq] at con hT hF
          obtain ⟨⟨qa, qb⟩, qo⟩ := q
          dsimp only at con hT hF
          have CON := Lib.hid con
          have V1 := V.alloc (.cells #[.string ⟨y.toArray⟩, .int .i64 f, .int .i64 t] 90)
          have L1 := below_more L hw (.cells #[.string ⟨y.toArray⟩, .int .i64 f, .int .i64 t] 90)
          have B1 := Blk.new wr 90 #[.string ⟨y.toArray⟩, .int .i64 f, .int .i64 t]
          have b0 := B1.c0
          have b1 := B1.c1
          have b2 := B1.c2
          have HTT := Lib.hid hT
          have HXX := Lib.hid hX
          have HFF := Lib.hid hF
          clear con hc h0 h1 h2 hp hq hT hX hF V L
          go_wp2_with fail
          refine (CON.out _).mono ?_
          rintro e w2 ⟨rfl, hb⟩
          have L2 := below_step L1 hb
          have hw2 := L2.size
          have hz2 : wr.heap.size + 1 ≤ w2.heap.size := by have := hb.size; simpa using this
          have V3 := (V1.below hb).alloc (.cells #[.int .i64 qa, .int .i64 qb] 47)
          have L3 := below_more L2 hw2 (.cells #[.int .i64 qa, .int .i64 qb] 47)
          have hL3 := L3.size
          have X := Blk.new w2 47 #[.int .i64 qa, .int .i64 qb]
          have x0 := X.c0
          have x1 := X.c1
          have B3 := (B1.below hb (by simp)).alloc (.cells #[.int .i64 qa, .int .i64 qb] 47)
          replace b0 := B3.c0
          clear c0 c1 c2 hgw hb CON X L2 V1 L1 B1 B3 b1 b2
          by_cases hyx : y = xl
          · subst hyx
            cases qo with
            | true =>
              have HK := Lib.hid (HTT.out rfl rfl)
              clear HTT HXX HFF
              go_wp2_with (at_builtin; refine wpList_appP rfl _ _ rfl _ _ _ _ _ _ rfl V3 _ (by simp) rfl (by omega) hL3 ?_; intro v2 w3 V2 hg2)
              go_roundw
              case rel => exact ⟨k + 1, by omega, by go_num, by rw [HK.out]; exact V2, V3.below_grown L3 hg2 hL3⟩
              case measure => simp [intOf]; omega
            | false =>
              have HK := Lib.hid (HFF.out rfl)
              clear HTT HXX HFF
              go_wp2_with fail
              go_roundw
              case rel => exact ⟨k + 1, by omega, by go_num, by rw [HK.out]; exact V3, L3⟩
              case measure => simp [intOf]; omega
          · have HK := Lib.hid (HXX.out hyx)
            have hne := str_ne hyx
            have hne2 : decide (y = xl) = false := by simpa using hyx
            have hne3 : decide ((⟨y.toArray⟩ : ByteArray) = ⟨xl.toArray⟩) = false := by simpa using hyx
            have hne4 : (y == xl) = false := beq_eq_false_iff_ne.2 hyx
            clear HTT HXX HFF
            cases qo
            all_goals
              go_wp2_with fail
              go_roundw
              case rel => exact ⟨k + 1, by omega, by go_num, by rw [HK.out]; exact V3, L3⟩
              case measure => simp [intOf]; omega
        · obtain rfl : k = n := by omega
          have hkl := HKL.out k
          have hks := HKK.out
          have h30 := HU30.out
          have LL := below_step hb0 L
          have hG := HG.out
          obtain ⟨K, hK⟩ : ∃ K, kyT rs xl m k = K := ⟨_, rfl⟩
          rw [hK] at V hkl hks hG
          clear hK HU30 HKK HG
          obtain ⟨_, A, cc, hv, _⟩ := V.opened
          subst hv
          by_cases hK : K = []
          · rw [if_pos hK] at hG
            have HG := Lib.hid hG
            subst hK
            rw [show ([] : List Sp).length = 0 from rfl]
            clear V hks h30 hG
            go_wp2_with fail
            go_ret2
            exact ⟨_, by rw [← HG.out]; rfl, by rw [← HG.out]; exact OwnP.nil _ _, LL⟩
          · rw [if_neg hK] at hG
            have hl0 : 0 < K.length := List.length_pos_iff.2 hK
            have UN := Lib.hid (i_united wr V (by omega) (fun s hs => (hks s hs).1) (fun s hs => (hks s hs).2))
            have h30' : (uni K).length ≤ 300 := by rw [← hG] at h30; have : (uni K).length ≤ 30 := h30; omega
            obtain ⟨U, hU⟩ : ∃ U, uni K = U := ⟨_, rfl⟩
            rw [hU] at UN hG h30'
            have HG := Lib.hid hG
            obtain ⟨q, hq⟩ : ∃ q, K.length = q := ⟨_, rfl⟩
            rw [hq] at hl0 UN ⊢
            have hq0 : ¬ (q : Int) = 0 := by omega
            clear hK V hks hq hkl hU h30 hG
            go_wp2_with fail
            refine UN.out.mono ?_
            rintro e w3 ⟨v3, rfl, V3, L3⟩
            go_wp2_with fail
            refine (i_lim _ V3 h30').mono ?_
            rintro e w4 ⟨rfl, rfl⟩
            go_wp2_with fail
            go_ret2
            exact ⟨_, by rw [← HG.out]; rfl, by rw [← HG.out]; exact V3.mono LL.size, below_step LL L3⟩
end Go.Proofs.YtmpgokijlikddaaGreatDoor
