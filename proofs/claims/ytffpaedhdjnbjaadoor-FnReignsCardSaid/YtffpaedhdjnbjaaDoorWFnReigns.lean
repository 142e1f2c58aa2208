/- Each day of a reign lies in one of its years, and these years follow one another without gaps: the walk. No condition. -/
import Derived.Test.YtffpaedhdjnbjaaDoorRows
import Derived.Test.YtffpaedhdjnbjaaDoorKit
import Derived.Test.YtffpaedhdjnbjaaDoorRegF
import Derived.Test.YtffpaedhdjnbjaaDoorDrawReg
import Derived.Test.YtffpaedhdjnbjaaDoorReign
import Derived.Test.YtffpaedhdjnbjaaDoorMem
import Derived.OpenShut
namespace Go.Proofs.YtffpaedhdjnbjaaDoor.fnReigns
open Go.RowKit
set_option linter.unusedVariables false
-- door
/-- what the law asks of a reign's span -/
theorem span_law (x : List UInt8) (f t m : Int) (hm : 0 ≤ m) (P0 P1 E C : Int) (h : rsF x f t m = ((P0, P1), E)) (hc : (cyF x f t).1 = C) :
    E = 0 → m ≤ C ∧ (m = 1 → P0 = f) ∧ (m = C → P1 = t) ∧ ((rsF x f t (m + 1)).2 = 0 ↔ m < C) ∧ ((rsF x f t (m + 1)).2 = 0 → (rsF x f t (m + 1)).1.1 = P1 + 1) ∧ 0 ≤ P1 ∧ P1 ≤ 730499 := by
  rintro rfl
  unfold rsF at h
  split at h
  · rename_i hr
    obtain ⟨q0, q1, q2⟩ := reg_open hr
    have hcc : (cyF x f t).1 = ky f t := by unfold cyF; rw [if_pos hr]
    rw [hcc] at hc
    subst hc
    split at h
    · simp at h
    · rename_i hk
      split at h
      · rename_i hs
        injection h with h1 _
        obtain ⟨l1, l2, l3, l4, l5⟩ := rsp_laws q0 q1 q2 (by omega) hs
        obtain ⟨b0, b1, b2, b3⟩ := rsp_bd (k := m) q0 q1 q2 (by omega)
        rw [h1] at l2 l3 l5 b2 b3
        have e : rsF x f t (m + 1) = if (rsp f t (m + 1)).2 then ((rsp f t (m + 1)).1, 0) else ((0, 0), 4) := by
          unfold rsF
          rw [if_pos hr, if_neg (by omega)]
        rw [e]
        refine ⟨l1, l2, l3, ?_, ?_, b2, b3⟩
        · rw [l4]
          by_cases hlt : m < ky f t
          · simp [hlt]
          · simp [hlt]
        · by_cases hlt : m < ky f t
          · intro _
            rw [l4]
            simp only [hlt, decide_true, if_true]
            exact l5 hlt
          · rw [l4]
            simp [hlt]
      · simp at h
  · simp at h
/-- what the law asks of a day's year -/
theorem own_law (x : List UInt8) (f t n K B : Int) (h : ryF x f t n = (K, B)) : B = 0 → K ≤ 9223372036854775807 ∧ (rsF x f t K).2 = 0 ∧ (rsF x f t K).1.1 ≤ n ∧ n ≤ (rsF x f t K).1.2 := by
  rintro rfl
  unfold ryF at h
  split at h
  · rename_i hr
    obtain ⟨q0, q1, q2⟩ := reg_open hr
    split at h
    · split at h
      · rename_i hn
        obtain ⟨n0, n1⟩ := inB_iff.1 hn
        injection h with h1 _
        subst h1
        obtain ⟨k0, k1, _⟩ := ky_bd f n q0 n0 (by omega)
        obtain ⟨o0, o1, o2⟩ := rsp_own q0 n0 n1 q2
        have e : rsF x f t (ky f n) = ((rsp f t (ky f n)).1, 0) := by
          unfold rsF
          rw [if_pos hr, if_neg (by omega), if_pos o0]
        rw [e]
        exact ⟨by omega, rfl, o1, o2⟩
      · simp at h
    · simp at h
  · simp at h
set_option maxRecDepth 100000 in
set_option maxHeartbeats 4000000 in
theorem walk (a : Option Addr) (n c : Nat) (xs : List Int) (hn : n ≤ 9223372036854775807) {w : World} (hI : InB w a n xs) (hx : ∀ i, 0 ≤ xs.getD i 0 ∧ xs.getD i 0 ≤ 255) (_ : World) (_ : w.ShapedOpen Tryd.prog) : Calls Tryd.prog 9 #[.slice a n c] w fun e w' => e = .returned (.bool true) ∧ Below w.heap.size w w' := by
  have con := l_big a n c w
  by_cases hbig : (4096 : Int) < n
  · simp only [hbig, decide_true] at con
    go_enter Tryd.func9, Tryd.ntmps9
    go_wp2_with fail
    refine con.mono ?_
    rintro e w1 ⟨rfl, L1⟩
    go_wp2_with fail
    go_ret
    exact ⟨rfl, L1⟩
  · simp only [hbig, decide_false] at con
    have hn' : n ≤ 4096 := by omega
    have hIB : ∀ W : World, Below w.heap.size w W → InB W a n xs := fun W h => hI.below h
    have HIB := Lib.hid hIB
    have HX := Lib.hid hx
    clear hIB hx hI
    go_enter Tryd.func9, Tryd.ntmps9
    go_wp2_with fail
    refine con.mono ?_
    rintro e w1 ⟨rfl, L1⟩
    clear con hbig
    go_wp2_with fail
    refine (d_RegnalYear a n c xs _ (HIB.out _ L1) hn' HX.out).mono ?_
    rintro e w2 ⟨⟨s, f, t, u, rfl, hs⟩, hb2⟩
    have hs' : s.size ≤ 9223372036854775807 := by omega
    have L2 := below_step L1 hb2
    clear hb2 L1
    have hy := own_law s.data.toList f t u
    have sy := s_RegnalYear s f t u
    have iy := i_RegnalYear s f t u
    obtain ⟨⟨K, B⟩, hKB⟩ : ∃ p, ryF s.data.toList f t u = p := ⟨_, rfl⟩
    have hy := hy K B hKB
    rw [hKB] at sy iy
    dsimp only at sy iy
    have SY := Lib.hid sy
    have IY := Lib.hid iy
    have HY := Lib.hid hy
    clear sy iy hy hKB
    go_wp2_with fail
    have L := L2
    clear L2
    refine (IY.out _ hs').mono ?_
    rintro e w3 ⟨rfl, hb⟩
    have R := (Blk.new w2 54 #[.string s, .int .i64 f, .int .i64 t]).below hb (by simp)
    replace L := below_step (below_more L L.size _) hb
    clear hb
    have cR0 := R.c0
    have cR1 := R.c1
    have cR2 := R.c2
    have hR := R.lt
    clear IY
    go_wp2_with fail
    refine (SY.out _ hs').mono ?_
    rintro e w4 ⟨rfl, hb⟩
    replace R := R.below hb R.lt
    replace L := below_step L hb
    clear hb
    have cR0 := R.c0
    have cR1 := R.c1
    have cR2 := R.c2
    have hR := R.lt
    clear SY
    go_wp2_with fail
    refine (d_RegnalSpan a n c xs _ (HIB.out _ L) hn' HX.out).mono ?_
    rintro e w5 ⟨⟨s2, f2, t2, m, rfl, hz, m0, m1⟩, hb⟩
    replace R := R.below hb R.lt
    replace L := below_step L hb
    clear hb
    have cR0 := R.c0
    have cR1 := R.c1
    have cR2 := R.c2
    have hR := R.lt
    have hz' : s2.size ≤ 9223372036854775807 := by omega
    clear HIB HX
    have law := span_law s2.data.toList f2 t2 m m0
    have ip := fun W => i_RegnalSpan s2 f2 t2 m W hz' (by omega)
    have sp := fun W => s_RegnalSpan s2 f2 t2 m W hz'
    have ic := fun W => i_CountYears s2 f2 t2 W hz'
    have sc := fun W => s_CountYears s2 f2 t2 W hz'
    obtain ⟨⟨⟨P0, P1⟩, E⟩, hP⟩ : ∃ p, rsF s2.data.toList f2 t2 m = p := ⟨_, rfl⟩
    obtain ⟨⟨C, D⟩, hC⟩ : ∃ p, cyF s2.data.toList f2 t2 = p := ⟨_, rfl⟩
    have law := law P0 P1 E C hP (by rw [hC])
    rw [hP] at ip sp
    rw [hC] at ic sc
    dsimp only at ip sp ic sc
    have IP := Lib.hid ip
    have SP := Lib.hid sp
    have IC := Lib.hid ic
    have SC := Lib.hid sc
    have LAW := Lib.hid law
    clear ip sp ic sc law hP hC
    go_wp2_with fail
    refine (IP.out _).mono ?_
    rintro e w6 ⟨rfl, hb⟩
    replace R := (R.alloc _).below hb (by simp; omega)
    have A := (Blk.new w5 54 #[.string s2, .int .i64 f2, .int .i64 t2]).below hb (by simp)
    replace L := below_step (below_more L L.size _) hb
    clear hb
    have cR0 := R.c0
    have cR1 := R.c1
    have cR2 := R.c2
    have hR := R.lt
    have cA0 := A.c0
    have cA1 := A.c1
    have cA2 := A.c2
    have hA := A.lt
    clear IP
    go_wp2_with fail
    refine (SP.out _).mono ?_
    rintro e w7 ⟨rfl, hb⟩
    replace R := (R.alloc _).below hb (by simp; omega)
    replace A := (A.alloc _).below hb (by simp; omega)
    have S := (Blk.new w6 40 #[.int .i64 P0, .int .i64 P1]).below hb (by simp)
    replace L := below_step (below_more L L.size _) hb
    clear hb
    have cR0 := R.c0
    have cR1 := R.c1
    have cR2 := R.c2
    have hR := R.lt
    have cA0 := A.c0
    have cA1 := A.c1
    have cA2 := A.c2
    have hA := A.lt
    have cS0 := S.c0
    have cS1 := S.c1
    have hS := S.lt
    clear SP
    go_wp2_with fail
    refine (IC.out _).mono ?_
    rintro e w8 ⟨rfl, hb⟩
    replace R := (R.alloc _).below hb (by simp; omega)
    replace A := (A.alloc _).below hb (by simp; omega)
    replace S := (S.alloc _).below hb (by simp; omega)
    have T := (Blk.new w7 40 #[.int .i64 P0, .int .i64 P1]).below hb (by simp)
    replace L := below_step (below_more L L.size _) hb
    clear hb
    have cR0 := R.c0
    have cR1 := R.c1
    have cR2 := R.c2
    have hR := R.lt
    have cA0 := A.c0
    have cA1 := A.c1
    have cA2 := A.c2
    have hA := A.lt
    have cS0 := S.c0
    have cS1 := S.c1
    have hS := S.lt
    have cT0 := T.c0
    have cT1 := T.c1
    have hT := T.lt
    clear IC
    go_wp2_with fail
    refine (SC.out _).mono ?_
    rintro e w9 ⟨rfl, hb⟩
    replace R := R.below hb R.lt
    replace A := A.below hb A.lt
    replace S := S.below hb S.lt
    replace T := T.below hb T.lt
    replace L := below_step L hb
    clear hb
    have cR0 := R.c0
    have cR1 := R.c1
    have cR2 := R.c2
    have hR := R.lt
    have cA0 := A.c0
    have cA1 := A.c1
    have cA2 := A.c2
    have hA := A.lt
    have cS0 := S.c0
    have cS1 := S.c1
    have hS := S.lt
    have cT0 := T.c0
    have cT1 := T.c1
    have hT := T.lt
    clear SC
    by_cases hE : E = 0
    · obtain ⟨l1, l2, l3, l4, l5, l6, l7⟩ := LAW.out hE
      subst hE
      clear LAW
      have con := fun W => i_RegnalSpan s2 f2 t2 (m + 1) W hz' (by omega)
      obtain ⟨⟨⟨N0, N1⟩, E2⟩, hN⟩ : ∃ p, rsF s2.data.toList f2 t2 (m + 1) = p := ⟨_, rfl⟩
      rw [hN] at con l4 l5
      dsimp only at con l4 l5
      clear hN
      have hd1 : (m = 1 ∧ P0 = f2) ∨ ¬ m = 1 := by
        by_cases h : m = 1
        · exact .inl ⟨h, l2 h⟩
        · exact .inr h
      have hd3 : (m = C ∧ P1 = t2 ∧ ¬ E2 = 0) ∨ (m < C ∧ E2 = 0 ∧ N0 = P1 + 1) := by
        by_cases h : m < C
        · exact .inr ⟨h, l4.2 h, l5 (l4.2 h)⟩
        · exact .inl ⟨by omega, l3 (by omega), fun h' => h (l4.1 h')⟩
      clear l2 l3 l4 l5
      have CON := Lib.hid con
      clear con
      rcases hd1 with ⟨rfl, rfl⟩ | h1
      all_goals
        rcases hd3 with ⟨rfl, rfl, h3⟩ | ⟨h3, rfl, rfl⟩
        all_goals
          go_wp2_with fail
          refine (CON.out _).mono ?_
          rintro e w10 ⟨rfl, hb⟩
          replace R := R.below hb R.lt
          replace A := A.below hb A.lt
          replace S := S.below hb S.lt
          replace T := T.below hb T.lt
          replace L := below_step L hb
          clear hb
          have cR0 := R.c0
          have cR1 := R.c1
          have cR2 := R.c2
          have hR := R.lt
          have cA0 := A.c0
          have cA1 := A.c1
          have cA2 := A.c2
          have hA := A.lt
          have cS0 := S.c0
          have cS1 := S.c1
          have hS := S.lt
          have cT0 := T.c0
          have cT1 := T.c1
          have hT := T.lt
          clear CON
          by_cases hB : B = 0
          · obtain ⟨hk, o0, o1, o2⟩ := HY.out hB
            subst hB
            have con3 := fun W => i_RegnalSpan s f t K W hs' hk
            obtain ⟨⟨⟨O0, O1⟩, E3⟩, hO⟩ : ∃ p, rsF s.data.toList f t K = p := ⟨_, rfl⟩
            rw [hO] at con3 o0 o1 o2
            dsimp only at con3 o0 o1 o2
            subst o0
            clear hO HY
            go_wp2_with fail
            refine (con3 _).mono ?_
            rintro e w20 ⟨rfl, hb⟩
            replace L := below_step (below_more L L.size _) hb
            replace R := (R.alloc _).below hb (by simp; omega)
            have cR0 := R.c0
            clear hb con3
            go_wp2_with fail
            go_ret
            exact ⟨rfl, below_more L L.size _⟩
          · clear HY
            go_wp2_with fail
            go_ret
            exact ⟨rfl, below_more L L.size _⟩
    · clear LAW
      by_cases hB : B = 0
      · obtain ⟨hk, o0, o1, o2⟩ := HY.out hB
        subst hB
        have con3 := fun W => i_RegnalSpan s f t K W hs' hk
        obtain ⟨⟨⟨O0, O1⟩, E3⟩, hO⟩ : ∃ p, rsF s.data.toList f t K = p := ⟨_, rfl⟩
        rw [hO] at con3 o0 o1 o2
        dsimp only at con3 o0 o1 o2
        subst o0
        clear hO HY
        go_wp2_with fail
        refine (con3 _).mono ?_
        rintro e w20 ⟨rfl, hb⟩
        replace L := below_step L hb
        clear hb con3
        go_wp2_with fail
        go_ret
        exact ⟨rfl, below_more L L.size _⟩
      · clear HY
        go_wp2_with fail
        go_ret
        exact ⟨rfl, L⟩
end Go.Proofs.YtffpaedhdjnbjaaDoor.fnReigns
