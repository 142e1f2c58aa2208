/- The days of no reign in a span: the program's and the reference's functions. Conditions: lengths that a machine can hold; how the list lies. -/
import Derived.Test.YtoadkljaiegnlaaDoorRegOnF
import Derived.Test.YtoadkljaiegnlaaDoorMet
import Derived.Test.YtoadkljaiegnlaaDoorMeet
import Derived.Test.YtoadkljaiegnlaaDoorOth
import Derived.Test.YtoadkljaiegnlaaDoorLim
import Derived.Test.YtoadkljaiegnlaaDoorTimes1
import Derived.Test.YtoadkljaiegnlaaDoorUnite
import Derived.Test.YtoadkljaiegnlaaDoorSpns
namespace Go.Proofs.YtoadkljaiegnlaaDoor
open Go.RowKit
/-- the code of reigns and two days -/
def ch2 (rs : List RG) (f t : Int) : Int := if areB rs then (if inB f 0 730499 then (if inB t 0 730499 then 0 else 2) else 2) else 1
theorem vd_1 {rs : List RG} {f t : Int} (h : ch2 rs f t = 1) : vdF rs f t = ([], 1) := by
  unfold ch2 at h; unfold vdF
  cases h1 : areB rs
  · rfl
  · cases h2 : inB f 0 730499 <;> cases h3 : inB t 0 730499 <;> simp [h1, h2, h3] at h
theorem vd_2 {rs : List RG} {f t : Int} (h : ch2 rs f t = 2) : vdF rs f t = ([], 2) := by
  unfold ch2 at h; unfold vdF
  cases h1 : areB rs
  · simp [h1] at h
  · cases h2 : inB f 0 730499 <;> cases h3 : inB t 0 730499 <;> simp [h1, h2, h3] at h ⊢
theorem vd_f {rs : List RG} {f t : Int} (h1 : areB rs = true) (_ : inB f 0 730499 = true) (_ : inB t 0 730499 = true) (h : ¬ f ≤ t) : vdF rs f t = ([], 2) := by
  unfold vdF; rw [if_pos h1, if_neg (fun h' => h h'.2.2)]
theorem vd_t {rs : List RG} {f t : Int} (h1 : areB rs = true) (h2 : inB f 0 730499 = true) (h3 : inB t 0 730499 = true) (h : f ≤ t) : vdF rs f t = (met1 (f, t) (rst 0 (uni (spn rs))), 0) := by
  unfold vdF; rw [if_pos h1, if_pos ⟨h2, h3, h⟩]
theorem i_without (b1 o1 c1 : Nat) (a : Sp) {b : Nat} {v : Value} {L : List Sp} (w : World) (h1 : b1 < w.heap.size) (a0 : w.cell? ⟨b1, o1, none⟩ = some (.int .i64 a.1)) (a1 : w.cell? ⟨b1, o1 + 1, none⟩ = some (.int .i64 a.2)) (h : OwnP w b v L) (hl : L.length ≤ 100000) (hb : ∀ s ∈ L, spB s) :
    Calls Tryd.prog 52 #[.slice (some ⟨b1, o1, none⟩) 1 c1, v] w fun e w' => ∃ v', e = .returned v' ∧ OwnP w' w.heap.size v' (met1 a (rst 0 L)) ∧ Below w.heap.size w w' := by
  have con := i_oth w h hl hb
  have hrl := rst_len L 0
  have con2 := fun (A : Option Addr) (c : Nat) (W : World) h1 a0 a1 hR => i_met b1 o1 c1 a A c (rst 0 L) W h1 a0 a1 hR (by omega)
  obtain ⟨R, hR⟩ : ∃ R, rst 0 L = R := ⟨_, rfl⟩
  rw [hR] at con con2 ⊢
  have CON := Lib.hid con
  have CON2 := Lib.hid con2
  clear con con2 h hb hR hrl hl
  have A0 := Lib.hid a0
  have A1 := Lib.hid a1
  clear a0 a1
  go_enter Tryd.func52, Tryd.ntmps52
  go_wp2_with fail
  refine CON.out.mono ?_
  rintro e w1 ⟨v1, rfl, V, L1⟩
  obtain ⟨_, A, c, rfl, _⟩ := V.opened
  have hz := L1.size
  go_wp2_with fail
  refine (CON2.out _ _ _ (by omega) ((L1.cell (p := ⟨b1, o1, none⟩) h1).trans A0.out) ((L1.cell (p := ⟨b1, o1 + 1, none⟩) h1).trans A1.out) (InP.of_own V)).mono ?_
  rintro e w2 ⟨v2, rfl, V2, L2, _⟩
  go_wp2_with fail
  go_ret
  exact ⟨_, rfl, V2.mono hz, below_step L1 L2⟩
theorem i_idx2 (g : Nat) (f t : Int) (w : World) (c0 : w.cell? ⟨g, 0, none⟩ = some (.int .i64 f)) (c1 : w.cell? ⟨g, 1, none⟩ = some (.int .i64 t)) : Calls Tryd.prog 102 #[.slice (some ⟨g, 0, none⟩) 2 2, .func (.func 70) #[] #[]] w fun e w' => e = .returned (.int .i64 (if inB f 0 730499 then (if inB t 0 730499 then -1 else 1) else 0)) ∧ w = w' := by
  have con := fun W => i_chk1 f W
  have con2 := fun W => i_chk1 t W
  obtain ⟨b, hb⟩ : ∃ b, inB f 0 730499 = b := ⟨_, rfl⟩
  obtain ⟨b', hb'⟩ : ∃ b', inB t 0 730499 = b' := ⟨_, rfl⟩
  rw [hb] at con ⊢
  rw [hb'] at con2 ⊢
  have CON := Lib.hid con
  have CON2 := Lib.hid con2
  clear con con2 hb hb'
  cases b with
  | false =>
    go_enter Tryd.func102, Tryd.ntmps102
    go_wp2_with fail
    go_loop [8] (fun i => i = .int .i64 0) (fun i => 1 - (intOf i).toNat)
    case atStart => rfl
    case round =>
      subst hrel
      go_wp2_with fail
      refine (CON.out _).mono ?_
      rintro e w1 ⟨rfl, rfl⟩
      go_wp2_with fail
      go_ret
      exact ⟨rfl, rfl⟩
  | true =>
    cases b' with
    | false =>
      go_enter Tryd.func102, Tryd.ntmps102
      go_wp2_with fail
      go_loop [8] (fun i => ∃ k : Nat, k ≤ 1 ∧ i = .int .i64 k) (fun i => 2 - (intOf i).toNat)
      case atStart => exact ⟨0, by omega, rfl⟩
      case round =>
        obtain ⟨k, hk, rfl⟩ := hrel
        by_cases h0 : k = 0
        · subst h0
          go_wp2_with fail
          refine (CON.out _).mono ?_
          rintro e w1 ⟨rfl, rfl⟩
          go_wp2_with fail
          go_round
          case rel => exact ⟨1, by omega, by go_num⟩
          case measure => simp [intOf]
        · obtain rfl : k = 1 := by omega
          go_wp2_with fail
          refine (CON2.out _).mono ?_
          rintro e w1 ⟨rfl, rfl⟩
          go_wp2_with fail
          go_ret
          exact ⟨rfl, rfl⟩
    | true =>
      go_enter Tryd.func102, Tryd.ntmps102
      go_wp2_with fail
      go_loop [8] (fun i => ∃ k : Nat, k ≤ 2 ∧ i = .int .i64 k) (fun i => 2 - (intOf i).toNat)
      case atStart => exact ⟨0, by omega, rfl⟩
      case round =>
        obtain ⟨k, hk, rfl⟩ := hrel
        by_cases h0 : k = 0
        · subst h0
          go_wp2_with fail
          refine (CON.out _).mono ?_
          rintro e w1 ⟨rfl, rfl⟩
          go_wp2_with fail
          go_round
          case rel => exact ⟨1, by omega, by go_num⟩
          case measure => simp [intOf]
        · by_cases h1 : k = 1
          · subst h1
            go_wp2_with fail
            refine (CON2.out _).mono ?_
            rintro e w1 ⟨rfl, rfl⟩
            go_wp2_with fail
            go_round
            case rel => exact ⟨2, by omega, by go_num⟩
            case measure => simp [intOf]
          · obtain rfl : k = 2 := by omega
            go_wp2_with fail
            go_ret
            exact ⟨rfl, rfl⟩
theorem i_chk2 (g c gd : Nat) (rs : List RG) (f t : Int) (w : World) (hR : RowR w g rs.length rs) (hn : rs.length ≤ 1048576) (hok : ∀ i, rgOk (rs.getD i rg0)) (hd : gd < w.heap.size) (c0 : w.cell? ⟨gd, 0, none⟩ = some (.int .i64 f)) (c1 : w.cell? ⟨gd, 1, none⟩ = some (.int .i64 t)) :
    Calls Tryd.prog 36 #[.slice (some ⟨g, 0, none⟩) rs.length c, .slice (some ⟨gd, 0, none⟩) 2 2] w fun e w' => e = .returned (.int .i64 (ch2 rs f t)) ∧ Below w.heap.size w w' := by
  have con := i_AreReigns g c rs w hR hn hok
  have con2 := fun W h1 h2 => i_idx2 gd f t W h1 h2
  unfold ch2
  obtain ⟨n, hnn⟩ : ∃ n, rs.length = n := ⟨_, rfl⟩
  rw [hnn] at con
  cases h1 : areB rs with
  | false =>
    rw [h1] at con
    have CON := Lib.hid con
    clear con con2
    rw [hnn]
    go_enter Tryd.func36, Tryd.ntmps36
    go_wp2_with fail
    refine CON.out.mono ?_
    rintro e w1 ⟨rfl, hb⟩
    go_wp2_with fail
    go_ret
    exact ⟨rfl, hb⟩
  | true =>
    rw [h1] at con
    obtain ⟨r, hr⟩ : ∃ r : Int, (if inB f 0 730499 then (if inB t 0 730499 then (-1 : Int) else 1) else 0) = r := ⟨_, rfl⟩
    have hres : (r = -1 ∧ (if inB f 0 730499 then (if inB t 0 730499 then (0 : Int) else 2) else 2) = 0) ∨ ((r = 0 ∨ r = 1) ∧ (if inB f 0 730499 then (if inB t 0 730499 then (0 : Int) else 2) else 2) = 2) := by
      cases h2 : inB f 0 730499 <;> cases h3 : inB t 0 730499 <;> simp [h2, h3] at hr ⊢ <;> omega
    rw [hr] at con2
    rw [if_pos rfl]
    have CON := Lib.hid con
    have CON2 := Lib.hid con2
    have C0 := Lib.hid c0
    have C1 := Lib.hid c1
    clear con con2 hr c0 c1
    obtain ⟨R, hR⟩ : ∃ R : Int, (if inB f 0 730499 then (if inB t 0 730499 then (0 : Int) else 2) else 2) = R := ⟨_, rfl⟩
    rw [hR] at hres ⊢
    clear hR
    rw [hnn]
    rcases hres with ⟨rfl, rfl⟩ | ⟨rfl | rfl, rfl⟩
    all_goals
      go_enter Tryd.func36, Tryd.ntmps36
      go_wp2_with fail
      refine CON.out.mono ?_
      rintro e w1 ⟨rfl, hb⟩
      have d0 := (hb.cell (p := ⟨gd, 0, none⟩) hd).trans C0.out
      have d1 := (hb.cell (p := ⟨gd, 1, none⟩) hd).trans C1.out
      go_wp2_with (go_at_call 69; go_in)
      refine (CON2.out _ d0 d1).mono ?_
      rintro e w2 ⟨rfl, rfl⟩
      go_wp2_with fail
      go_ret
      exact ⟨rfl, hb⟩
set_option maxRecDepth 100000 in
set_option maxHeartbeats 1000000 in
theorem i_VoidDays (g c : Nat) (rs : List RG) (f t : Int) (w : World) (hR : RowR w g rs.length rs) (hn : rs.length ≤ 1048576) (hok : ∀ i, rgOk (rs.getD i rg0)) (hg : g < w.heap.size) :
    Calls Tryd.prog 21 #[.slice (some ⟨g, 0, none⟩) rs.length c, .int .i64 f, .int .i64 t] w fun e w' => ∃ v, e = .returned (.tuple #[v, .int .i64 (vdF rs f t).2]) ∧ OwnP w' w.heap.size v (vdF rs f t).1 ∧ Below w.heap.size w w' := by
  have con := fun gd W h1 h2 h3 h4 => i_chk2 g c gd rs f t W h1 hn hok h2 h3 h4
  have hA := (below_alloc w (.cells #[.int .i64 f, .int .i64 t] 2))
  have hR1 := Lib.hid (hR.below hA hg)
  have hz1 : w.heap.size ≤ (w.alloc (.cells #[.int .i64 f, .int .i64 t] 2)).heap.size := by simp
  have hcase : (areB rs = true ∧ inB f 0 730499 = true ∧ inB t 0 730499 = true ∧ ch2 rs f t = 0) ∨ (∃ k, ch2 rs f t = k ∧ (k = 1 ∨ k = 2) ∧ vdF rs f t = ([], k)) := by
    cases h1 : areB rs
    · exact .inr ⟨1, by simp [ch2, h1], .inl rfl, vd_1 (by simp [ch2, h1])⟩
    · cases h2 : inB f 0 730499
      · exact .inr ⟨2, by simp [ch2, h1, h2], .inr rfl, vd_2 (by simp [ch2, h1, h2])⟩
      · cases h3 : inB t 0 730499
        · exact .inr ⟨2, by simp [ch2, h1, h2, h3], .inr rfl, vd_2 (by simp [ch2, h1, h2, h3])⟩
        · exact .inl ⟨rfl, rfl, rfl, by simp [ch2, h1, h2, h3]⟩
  rcases hcase with ⟨h1, h2, h3, hc⟩ | ⟨k, hc, hk, hv⟩
  · rw [hc] at con
    by_cases hft : f ≤ t
    · rw [vd_t h1 h2 h3 hft]
      have hn30 := (are_open h1).1
      have con2 := fun W (h : RowR W g rs.length rs) => i_spns g c rs W h (by omega)
      have con3 := fun (W : World) (b : Nat) (v : Value) (h : OwnP W b v (spn rs)) => i_united W h (by rw [spn_len]; omega) (spn_bd h1) (fun s hs => (spn_ok h1 s hs).2)
      have hul := spn_uni_len h1
      have con4 := fun (W : World) (b b1 o1 c1 : Nat) (v : Value) h1 a0 a1 (h : OwnP W b v (uni (spn rs))) => i_without b1 o1 c1 (f, t) W h1 a0 a1 h (by omega) (uni_bd (spn_bd ‹areB rs = true›))
      have hml : (met1 (f, t) (rst 0 (uni (spn rs)))).length ≤ 300 := by
        have a1 := rst_len (uni (spn rs)) 0
        have a2 := met1_len (f, t) (rst 0 (uni (spn rs)))
        omega
      obtain ⟨M, hM⟩ : ∃ M, met1 (f, t) (rst 0 (uni (spn rs))) = M := ⟨_, rfl⟩
      rw [hM] at con4 hml ⊢
      obtain ⟨U, hU⟩ : ∃ U, uni (spn rs) = U := ⟨_, rfl⟩
      rw [hU] at con3 con4
      obtain ⟨S, hS⟩ : ∃ S, spn rs = S := ⟨_, rfl⟩
      rw [hS] at con2 con3
      have con5 := fun (W : World) (b : Nat) (v : Value) (h : OwnP W b v M) => i_lim W h hml
      have CON := Lib.hid con
      have CON2 := Lib.hid con2
      have CON3 := Lib.hid con3
      have CON4 := Lib.hid con4
      have CON5 := Lib.hid con5
      clear con con2 con3 con4 con5 hul hml hM hU hS h1 h2 h3 hc hR
      obtain ⟨n, hnn⟩ : ∃ n, rs.length = n := ⟨_, rfl⟩
      rw [hnn] at CON CON2 hR1 ⊢
      clear hnn hn hn30 hok
      go_enter Tryd.func21, Tryd.ntmps21
      go_wp2_with fail
      refine (CON.out _ _ hR1.out (by simp) (Blk.new w _ _).c0 (Blk.new w _ _).c1).mono ?_
      rintro e w1 ⟨rfl, hb⟩
      have L1 := hA.trans (hb.mono hz1)
      have hA2 := (below_alloc w1 (.cells #[.int .i64 f, .int .i64 t] 62))
      have hzb := hb.size
      have hR2 := Lib.hid ((hR1.out.below hb (by omega)).below hA2 (by omega))
      have L2 := L1.trans (hA2.mono L1.size)
      have B := Blk.new w1 62 #[.int .i64 f, .int .i64 t]
      go_wp2_with fail
      refine (CON2.out _ hR2.out).mono ?_
      rintro e w2 ⟨v2, rfl, o2, hb2⟩
      have L3 := below_step L2 hb2
      replace B := B.below hb2 (by simp)
      have hz2 := hb2.size
      go_wp2_with fail
      refine (CON3.out _ _ _ o2).mono ?_
      rintro e w3 ⟨v3, rfl, o3, hb3⟩
      have L4 := below_step L3 hb3
      have hz3 := hb3.size
      have hk1 : w1.heap.size < w2.heap.size := by simp at hz2; omega
      replace B := B.below hb3 hk1
      go_wp2_with fail
      refine (CON4.out _ _ _ 0 _ _ (by omega) B.c0 B.c1 o3).mono ?_
      rintro e w4 ⟨v4, rfl, o4, hb4⟩
      have L5 := below_step L4 hb4
      go_wp2_with fail
      refine (CON5.out _ _ _ o4).mono ?_
      rintro e w5 ⟨rfl, rfl⟩
      go_wp2_with fail
      go_ret2
      exact ⟨_, rfl, o4.mono L4.size, L5⟩
    · rw [vd_f h1 h2 h3 hft]
      have hlt : t < f := by omega
      have CON := Lib.hid con
      clear con h1 h2 h3 hc hft
      go_enter Tryd.func21, Tryd.ntmps21
      go_wp2_with fail
      refine (CON.out _ _ hR1.out (by simp) (Blk.new w _ _).c0 (Blk.new w _ _).c1).mono ?_
      rintro e w1 ⟨rfl, hb⟩
      have L1 := hA.trans (hb.mono hz1)
      go_wp2_with fail
      go_ret2
      exact ⟨_, rfl, OwnP.nil _ _, L1⟩
  · rw [hv]
    rw [hc] at con
    have CON := Lib.hid con
    clear con hc hv
    rcases hk with rfl | rfl
    all_goals
      go_enter Tryd.func21, Tryd.ntmps21
      go_wp2_with fail
      refine (CON.out _ _ hR1.out (by simp) (Blk.new w _ _).c0 (Blk.new w _ _).c1).mono ?_
      rintro e w1 ⟨rfl, hb⟩
      have L1 := hA.trans (hb.mono hz1)
      go_wp2_with fail
      go_ret2
      exact ⟨_, rfl, OwnP.nil _ _, L1⟩
set_option maxRecDepth 100000 in
set_option maxHeartbeats 1000000 in
theorem s_VoidDays (g c : Nat) (rs : List RG) (f t : Int) (w : World) (hR : RowR w g rs.length rs) (hn : rs.length ≤ 1048576) (hok : ∀ i, rgOk (rs.getD i rg0)) (hg : g < w.heap.size) :
    Calls Tryd.prog 20 #[.slice (some ⟨g, 0, none⟩) rs.length c, .int .i64 f, .int .i64 t] w fun e w' => ∃ v, e = .returned (.tuple #[v, .int .i64 (vdF rs f t).2]) ∧ OwnP w' w.heap.size v (vdF rs f t).1 ∧ Below w.heap.size w w' := by
  have con := s_AreReigns g c rs w hR hn hok
  have HR := Lib.hid hR
  cases h1 : areB rs with
  | false =>
    rw [vd_1 (by simp [ch2, h1])]
    rw [h1] at con
    have CON := Lib.hid con
    clear con
    go_enter Tryd.func20, Tryd.ntmps20
    go_wp2_with fail
    refine CON.out.mono ?_
    rintro e w1 ⟨rfl, hb⟩
    go_wp2_with fail
    go_ret2
    exact ⟨_, rfl, OwnP.nil _ _, hb⟩
  | true =>
    rw [h1] at con
    have CON := Lib.hid con
    clear con
    cases h2 : inB f 0 730499 with
    | false =>
      rw [vd_2 (by simp [ch2, h1, h2])]
      have SF := Lib.hid (fun W => toB (s_day f W) h2)
      clear h1 h2
      go_enter Tryd.func20, Tryd.ntmps20
      go_wp2_with fail
      refine CON.out.mono ?_
      rintro e w1 ⟨rfl, hb⟩
      go_wp2_with fail
      refine (SF.out _).mono ?_
      rintro e w2 ⟨rfl, rfl⟩
      go_wp2_with fail
      go_ret2
      exact ⟨_, rfl, OwnP.nil _ _, hb⟩
    | true =>
      have SF := Lib.hid (fun W => toB (s_day f W) h2)
      cases h3 : inB t 0 730499 with
      | false =>
        rw [vd_2 (by simp [ch2, h1, h2, h3])]
        have ST := Lib.hid (fun W => toB (s_day t W) h3)
        clear h1 h2 h3
        go_enter Tryd.func20, Tryd.ntmps20
        go_wp2_with fail
        refine CON.out.mono ?_
        rintro e w1 ⟨rfl, hb⟩
        go_wp2_with fail
        refine (SF.out _).mono ?_
        rintro e w2 ⟨rfl, rfl⟩
        go_wp2_with fail
        refine (ST.out _).mono ?_
        rintro e w2 ⟨rfl, rfl⟩
        go_wp2_with fail
        go_ret2
        exact ⟨_, rfl, OwnP.nil _ _, hb⟩
      | true =>
        have ST := Lib.hid (fun W => toB (s_day t W) h3)
        by_cases hft : f ≤ t
        · rw [vd_t h1 h2 h3 hft]
          have hn30 := (are_open h1).1
          have con2 := fun W (h : RowR W g rs.length rs) => s_times1 g c rs W h h1
          rw [tim_spn h1] at con2
          have hul := spn_uni_len h1
          have con3 := fun (W : World) (b : Nat) (v : Value) (h : OwnP W b v (uni (spn rs))) => s_oth W h (by omega) (uni_bd (spn_bd h1))
          have hrl := rst_len (uni (spn rs)) 0
          have con4 := fun (b1 o1 c1 : Nat) (A : Option Addr) (cc : Nat) (W : World) h1 a0 a1 hR => s_Meet b1 o1 c1 (f, t) A cc (rst 0 (uni (spn rs))) W h1 a0 a1 hR (by omega)
          obtain ⟨U, hU⟩ : ∃ U, uni (spn rs) = U := ⟨_, rfl⟩
          rw [hU] at con2 con3 con4 ⊢
          obtain ⟨R, hRR⟩ : ∃ R, rst 0 U = R := ⟨_, rfl⟩
          rw [hRR] at con3 con4 ⊢
          have CON2 := Lib.hid con2
          have CON3 := Lib.hid con3
          have CON4 := Lib.hid con4
          clear con2 con3 con4 hul hrl hU hRR h1 h2 h3 hR
          obtain ⟨n, hnn⟩ : ∃ n, rs.length = n := ⟨_, rfl⟩
          rw [hnn] at CON CON2 HR ⊢
          clear hnn hn hn30 hok
          have hle : ¬ t < f := by omega
          go_enter Tryd.func20, Tryd.ntmps20
          go_wp2_with fail
          refine CON.out.mono ?_
          rintro e w1 ⟨rfl, hb⟩
          have hA2 := (below_alloc w1 (.cells #[.int .i64 f, .int .i64 t] 62))
          have hzb := hb.size
          have hR2 := Lib.hid ((HR.out.below hb hg).below hA2 (by omega))
          have L2 := hb.trans (hA2.mono hzb)
          have B := Blk.new w1 62 #[.int .i64 f, .int .i64 t]
          go_wp2_with fail
          refine (SF.out _).mono ?_
          rintro e w2 ⟨rfl, rfl⟩
          go_wp2_with fail
          refine (ST.out _).mono ?_
          rintro e w2 ⟨rfl, rfl⟩
          go_wp2_with fail
          refine (CON2.out _ hR2.out).mono ?_
          rintro e w2 ⟨v2, rfl, o2, hb2⟩
          have L3 := below_step L2 hb2
          replace B := B.below hb2 (by simp)
          have hz2 := hb2.size
          go_wp2_with fail
          refine (CON3.out _ _ _ o2).mono ?_
          rintro e w3 ⟨v3, rfl, o3, hb3⟩
          have L4 := below_step L3 hb3
          have hz3 := hb3.size
          have hk1 : w1.heap.size < w2.heap.size := by simp at hz2; omega
          replace B := B.below hb3 hk1
          obtain ⟨_, A, cc, rfl, _⟩ := o3.opened
          go_wp2_with fail
          refine (CON4.out _ 0 _ _ _ _ (by omega) B.c0 B.c1 (InP.of_own o3)).mono ?_
          rintro e w4 ⟨v4, rfl, o4, hb4, _⟩
          have L5 := below_step L4 hb4
          go_wp2_with fail
          go_ret2
          exact ⟨_, rfl, o4.mono L4.size, L5⟩
        · rw [vd_f h1 h2 h3 hft]
          have hlt : t < f := by omega
          clear h1 h2 h3 hft
          go_enter Tryd.func20, Tryd.ntmps20
          go_wp2_with fail
          refine CON.out.mono ?_
          rintro e w1 ⟨rfl, hb⟩
          go_wp2_with fail
          refine (SF.out _).mono ?_
          rintro e w2 ⟨rfl, rfl⟩
          go_wp2_with fail
          refine (ST.out _).mono ?_
          rintro e w2 ⟨rfl, rfl⟩
          go_wp2_with fail
          go_ret2
          exact ⟨_, rfl, OwnP.nil _ _, hb⟩
end Go.Proofs.YtoadkljaiegnlaaDoor
