/- The years of a king: the program's and the reference's functions return what the plain function says. Conditions: lengths that a machine can hold; how the list lies. -/
import Derived.Test.YtoadkljaiegnlaaDoorAreI
import Derived.Test.YtoadkljaiegnlaaDoorRegY
import Derived.Test.YtoadkljaiegnlaaDoorMake
import Derived.Test.YtoadkljaiegnlaaDoorMet
import Derived.Test.YtoadkljaiegnlaaDoorKingP
import Derived.Test.YtoadkljaiegnlaaDoorLim
import Derived.Test.YtoadkljaiegnlaaDoorUnite
namespace Go.Proofs.YtoadkljaiegnlaaDoor
open Go.RowKit
theorem str_ne {x y : List UInt8} (h : ¬ x = y) : ¬ (⟨x.toArray⟩ : ByteArray) = ⟨y.toArray⟩ := fun e => h (by injection e with e; simpa using e)
set_option maxRecDepth 100000 in
set_option maxHeartbeats 2000000 in
theorem s_king7 (g c : Nat) (rs : List RG) (x : List UInt8) (m : Int) (w : World) (hR : RowR w g rs.length rs) (hA : areB rs = true) (m0 : 1 ≤ m) : Calls Tryd.prog 42 #[.slice (some ⟨g, 0, none⟩) rs.length c, .string ⟨x.toArray⟩, .int .i64 m] w fun e w' => ∃ v, e = .returned v ∧ OwnP w' w.heap.size v (uni (kyT rs x m rs.length)) ∧ Below w.heap.size w w' := by
  obtain ⟨hn, hop⟩ := are_open hA
  have hk := kyT_ok (x := x) hA m0 rs.length (Nat.le_refl _)
  have hkl := kyT_len rs x m rs.length
  have MK := Lib.hid (fun (B : Nat) (v : Value) (W : World) (hV : OwnP W B v (kyT rs x m rs.length)) => s_Make W hV (by omega) (fun s hs => (hk s hs).1))
  have HO := Lib.hid hop
  have HR := Lib.hid hR
  have HT := Lib.hid (fun j => @kyT_T rs x m j)
  have HX := Lib.hid (fun j => @kyT_x rs x m j)
  have HF := Lib.hid (fun j => @kyT_o rs x m j)
  have HL := Lib.hid (kyT_len rs x m)
  clear hR hop hk hkl
  obtain ⟨n, hnn⟩ : ∃ n, rs.length = n := ⟨_, rfl⟩
  rw [hnn] at HR HO hn MK ⊢
  clear hnn hA
  go_enter Tryd.func42, Tryd.ntmps42
  go_wp2_with fail
  go_loopw [7, 8] (fun o i wr => ∃ k : Nat, k ≤ n ∧ i = .int .i64 k ∧ OwnP wr w.heap.size o (kyT rs x m k) ∧ Below w.heap.size w wr) (fun _ i _ => n - (intOf i).toNat)
  case atStart => exact ⟨0, by omega, rfl, OwnP.lit0 w, below_alloc _ _⟩
  case round =>
    obtain ⟨k, hk, rfl, V, L⟩ := hrel
    have hw := L.size
    by_cases hlt : k < n
    · obtain ⟨hg, hc⟩ := HR.out (by omega)
      obtain ⟨h0, h1, h2⟩ := hc k hlt
      have c0 := (L.cell (p := ⟨g, k * 3, none⟩) hg).trans h0
      have c1 := (L.cell (p := ⟨g, k * 3 + 1, none⟩) hg).trans h1
      have c2 := (L.cell (p := ⟨g, k * 3 + 2, none⟩) hg).trans h2
      have hgw : g < wr.heap.size := Nat.lt_of_lt_of_le hg hw
      obtain ⟨o0, o1, o2⟩ := HO.out k hlt
      have hT := HT.out k
      have hX := HX.out k
      have hF := HF.out k
      have hlen := HL.out k
      obtain ⟨p, hp⟩ : ∃ p, rs.getD k rg0 = p := ⟨_, rfl⟩
      rw [hp] at c0 c1 c2 h0 o0 o1 o2 hT hX hF
      obtain ⟨y, f, t⟩ := p
      dsimp only at c0 c1 c2 h0 o0 o1 o2 hT hX hF
      have C0 := Lib.hid h0
      have con := fun W => s_span7 ⟨y.toArray⟩ f t m W o0 o1 o2 m0
      obtain ⟨q, hq⟩ : ∃ q, rsp f t m = q := ⟨_, rfl⟩
      rw [hq] at con hT hF
      obtain ⟨⟨qa, qb⟩, qo⟩ := q
      dsimp only at con hT hF
      have CON := Lib.hid con
      clear con hc h0 h1 h2 hp hq
      have HTT := Lib.hid hT
      have HXX := Lib.hid hX
      have HFF := Lib.hid hF
      clear hT hX hF
      go_wp2_with fail
      refine (CON.out _).mono ?_
      rintro e w2 ⟨rfl, hb⟩
      have L2 := below_step L hb
      have hw2 := L2.size
      have V3 := (V.below hb).alloc (.cells #[.int .i64 qa, .int .i64 qb] 62)
      have L3 := below_more L2 hw2 (.cells #[.int .i64 qa, .int .i64 qb] 62)
      have hL3 := L3.size
      have X := Blk.new w2 62 #[.int .i64 qa, .int .i64 qb]
      have x0 := X.c0
      have x1 := X.c1
      replace c0 := (L3.cell (p := ⟨g, k * 3, none⟩) hg).trans C0.out
      have hgw2 : g < w2.heap.size + 1 := by have := hb.size; omega
      clear c1 c2 L V hgw hb CON X L2
      by_cases hyx : y = x
      · subst hyx
        cases qo with
        | true =>
          have HK := Lib.hid (HTT.out rfl rfl)
          clear HTT HXX HFF
          go_wp2_with (at_builtin; refine wpList_appP rfl _ _ rfl _ _ _ _ _ _ rfl V3 _ (by simp) rfl (by omega) hL3 ?_; intro v2 w3 V2 hg2)
          go_roundw
          case rel => exact ⟨k + 1, by omega, by go_num, by rw [HK.out]; exact V2, V3.below_grown L3 hg2 hL3⟩
          case measure => simp [intOf]; omega
        | false =>
          have HK := Lib.hid (HFF.out rfl)
          clear HTT HXX HFF
          go_wp2_with fail
          go_roundw
          case rel => exact ⟨k + 1, by omega, by go_num, by rw [HK.out]; exact V3, L3⟩
          case measure => simp [intOf]; omega
      · have HK := Lib.hid (HXX.out hyx)
        have hne := str_ne hyx
        have hne2 : decide (y = x) = false := by simpa using hyx
        have hne3 : decide ((⟨y.toArray⟩ : ByteArray) = ⟨x.toArray⟩) = false := by simpa using hyx
        clear HTT HXX HFF
        go_wp2_with fail
        go_roundw
        case rel => exact ⟨k + 1, by omega, by go_num, by rw [HK.out]; exact V3, L3⟩
        case measure => simp [intOf]; omega
    · obtain rfl : k = n := by omega
      go_wp2_with fail
      refine (MK.out _ _ _ V).mono ?_
      rintro e w2 ⟨v, rfl, ho, hb⟩
      go_wp2_with fail
      go_ret
      exact ⟨_, rfl, ho.mono L.size, below_step L hb⟩
set_option maxRecDepth 100000 in
set_option maxHeartbeats 1000000 in
theorem s_KingYearSet (g c : Nat) (rs : List RG) (x : ByteArray) (m : Int) (_ : (Lit.int .i64 m).wf = true) (w : World) (hR : RowR w g rs.length rs) (hn : rs.length ≤ 1048576) (hok : ∀ i, rgOk (rs.getD i rg0)) (hg : g < w.heap.size) :
    Calls Tryd.prog 14 #[.slice (some ⟨g, 0, none⟩) rs.length c, .string x, .int .i64 m] w fun e w' => ∃ v, e = .returned (.tuple #[v, .int .i64 (kyF rs x.data.toList m).2]) ∧ OwnP w' w.heap.size v (kyF rs x.data.toList m).1 ∧ Below w.heap.size w w' := by
  have con := s_AreReigns g c rs w hR hn hok
  have con2 := fun W (h : RowR W g rs.length rs) h1 h2 => s_king7 g c rs x.data.toList m W h h1 h2
  have hF : kyF rs x.data.toList m = if areB rs then (if m < 1 then ([], 2) else if kyT rs x.data.toList m rs.length = [] then ([], 4) else (uni (kyT rs x.data.toList m rs.length), 0)) else ([], 1) := rfl
  rw [hF]
  clear hF
  have hun : uni (kyT rs x.data.toList m rs.length) = [] ↔ kyT rs x.data.toList m rs.length = [] := uni_nil_iff
  obtain ⟨U, hU⟩ : ∃ U, uni (kyT rs x.data.toList m rs.length) = U := ⟨_, rfl⟩
  obtain ⟨K, hK⟩ : ∃ K, kyT rs x.data.toList m rs.length = K := ⟨_, rfl⟩
  rw [hU] at hun con2 ⊢
  rw [hK] at hun ⊢
  clear hU hK
  have HR := Lib.hid hR; clear hR
  obtain ⟨n, hnn⟩ : ∃ n, rs.length = n := ⟨_, rfl⟩
  rw [hnn] at con con2 HR hn ⊢
  clear hnn
  cases h1 : areB rs with
  | false =>
    rw [h1] at con
    rw [if_neg (by decide)]
    have CON := Lib.hid con
    clear con con2 hun
    go_enter Tryd.func14, Tryd.ntmps14
    go_wp2_with fail
    refine CON.out.mono ?_
    rintro e w1 ⟨rfl, hb⟩
    go_wp2_with fail
    go_ret2
    exact ⟨_, rfl, OwnP.nil _ _, hb⟩
  | true =>
    rw [h1] at con
    rw [if_pos rfl]
    by_cases hm : m < 1
    · rw [if_pos hm]
      have CON := Lib.hid con
      clear con con2 hun
      go_enter Tryd.func14, Tryd.ntmps14
      go_wp2_with fail
      refine CON.out.mono ?_
      rintro e w1 ⟨rfl, hb⟩
      go_wp2_with fail
      go_ret2
      exact ⟨_, rfl, OwnP.nil _ _, hb⟩
    · rw [if_neg hm]
      have hm1 : 1 ≤ m := by omega
      have con3 := fun W h => con2 W h h1 hm1
      have CON := Lib.hid con
      have CON3 := Lib.hid con3
      clear con con2 con3 hm h1
      by_cases hK : K = []
      · rw [if_pos hK]
        have hU := hun.2 hK
        subst hU
        clear hun hK
        go_enter Tryd.func14, Tryd.ntmps14
        go_wp2_with fail
        refine CON.out.mono ?_
        rintro e w1 ⟨rfl, hb⟩
        have hR1 := HR.out.below hb hg
        go_wp2_with fail
        refine (CON3.out _ hR1).mono ?_
        rintro e w2 ⟨v, rfl, ho, hb2⟩
        have L2 := below_step hb hb2
        obtain ⟨_, A, cc, rfl, _⟩ := ho.opened
        rw [show ([] : List Sp).length = 0 from rfl]
        clear ho
        go_wp2_with fail
        go_ret2
        exact ⟨_, rfl, OwnP.nil _ _, L2⟩
      · rw [if_neg hK]
        have hU : ¬ U = [] := fun h => hK (hun.1 h)
        have hl0 : 0 < U.length := List.length_pos_iff.2 hU
        clear hun hU hK
        go_enter Tryd.func14, Tryd.ntmps14
        go_wp2_with fail
        refine CON.out.mono ?_
        rintro e w1 ⟨rfl, hb⟩
        have hR1 := HR.out.below hb hg
        go_wp2_with fail
        refine (CON3.out _ hR1).mono ?_
        rintro e w2 ⟨v, rfl, ho, hb2⟩
        have L2 := below_step hb hb2
        have ho2 := ho.mono hb.size
        obtain ⟨_, A, cc, rfl, _⟩ := ho.opened
        clear ho
        have HO := Lib.hid ho2
        obtain ⟨q, hq⟩ : ∃ q, U.length = q := ⟨_, rfl⟩
        rw [hq] at hl0 HO ⊢
        have hq0 : ¬ (q : Int) = 0 := by omega
        clear ho2 hq
        go_wp2_with fail
        go_ret2
        exact ⟨_, rfl, HO.out, L2⟩
set_option maxRecDepth 100000 in
set_option maxHeartbeats 2000000 in
theorem i_KingYearSet (g c : Nat) (rs : List RG) (x : ByteArray) (m : Int) (wm : (Lit.int .i64 m).wf = true) (w : World) (hR : RowR w g rs.length rs) (hn : rs.length ≤ 1048576) (hok : ∀ i, rgOk (rs.getD i rg0)) (hg : g < w.heap.size) :
    Calls Tryd.prog 15 #[.slice (some ⟨g, 0, none⟩) rs.length c, .string x, .int .i64 m] w fun e w' => ∃ v, e = .returned (.tuple #[v, .int .i64 (kyF rs x.data.toList m).2]) ∧ OwnP w' w.heap.size v (kyF rs x.data.toList m).1 ∧ Below w.heap.size w w' := by
  have con := i_AreReigns g c rs w hR hn hok
  have hF : kyF rs x.data.toList m = if areB rs then (if m < 1 then ([], 2) else if kyT rs x.data.toList m rs.length = [] then ([], 4) else (uni (kyT rs x.data.toList m rs.length), 0)) else ([], 1) := rfl
  have HU30 := Lib.hid (kyF_len rs x.data.toList m)
  rw [hF] at HU30 ⊢
  clear hF
  have HR := Lib.hid hR; clear hR
  have m9 : m ≤ 9223372036854775807 := (Go.bounds_i64 wm).2
  obtain ⟨xl, rfl⟩ : ∃ xl : List UInt8, x = ⟨xl.toArray⟩ := ⟨x.data.toList, by cases x; simp⟩
  have hxl : (⟨xl.toArray⟩ : ByteArray).data.toList = xl := by simp
  rw [hxl] at HU30 ⊢
  clear hxl
  have HKL := Lib.hid (kyT_len rs xl m)
  have HKO := Lib.hid (fun h k => kyT_ok (x := xl) (k := m) (rs := rs) h k rs.length (Nat.le_refl _))
  have HT := Lib.hid (fun j => @kyT_T rs xl m j)
  have HX := Lib.hid (fun j => @kyT_x rs xl m j)
  have HF := Lib.hid (fun j => @kyT_o rs xl m j)
  have HO := Lib.hid (fun h => (are_open (rs := rs) h))
  obtain ⟨n, hnn⟩ : ∃ n, rs.length = n := ⟨_, rfl⟩
  rw [hnn] at con HR HO HKO HU30 hn ⊢
  clear hnn
  cases h1 : areB rs with
  | false =>
    rw [h1] at con
    rw [if_neg (by decide)]
    have CON := Lib.hid con
    clear con
    go_enter Tryd.func15, Tryd.ntmps15
    go_wp2_with fail
    refine CON.out.mono ?_
    rintro e w1 ⟨rfl, hb⟩
    go_wp2_with fail
    go_ret2
    exact ⟨_, rfl, OwnP.nil _ _, hb⟩
  | true =>
    rw [h1] at con
    rw [if_pos rfl]
    rw [h1, if_pos rfl] at HU30
    by_cases hm : m < 1
    · rw [if_pos hm]
      have CON := Lib.hid con
      clear con HU30
      go_enter Tryd.func15, Tryd.ntmps15
      go_wp2_with fail
      refine CON.out.mono ?_
      rintro e w1 ⟨rfl, hb⟩
      go_wp2_with fail
      go_ret2
      exact ⟨_, rfl, OwnP.nil _ _, hb⟩
    · rw [if_neg hm]
      rw [if_neg hm] at HU30
      have m0 : 1 ≤ m := by omega
      obtain ⟨G, hG⟩ : ∃ G, (if kyT rs xl m n = [] then (([] : List Sp), (4 : Int)) else (uni (kyT rs xl m n), 0)) = G := ⟨_, rfl⟩
      rw [hG] at HU30 ⊢
      have HG := Lib.hid hG
      clear hG
      have HKK := Lib.hid (HKO.out h1 m0)
      obtain ⟨hn30, hop⟩ := HO.out h1
      have HOP := Lib.hid hop
      have CON := Lib.hid con
      clear con hm h1 hop HO HKO
      go_enter Tryd.func15, Tryd.ntmps15
      go_wp2_with fail
      refine CON.out.mono ?_
      rintro e w0 ⟨rfl, hb0⟩
      have hR0 := Lib.hid (HR.out.below hb0 hg)
      have hz0 := hb0.size
      clear CON HR
      go_wp2_with fail
      go_loopw [8, 23] (fun o i wr => ∃ k : Nat, k ≤ n ∧ i = .int .i64 k ∧ OwnP wr w0.heap.size o (kyT rs xl m k) ∧ Below w0.heap.size w0 wr) (fun _ i _ => n - (intOf i).toNat)
      case atStart => exact ⟨0, by omega, rfl, OwnP.lit0 w0, below_alloc _ _⟩
      case round =>
        obtain ⟨k, hk, rfl, V, L⟩ := hrel
        have hw := L.size
        by_cases hlt : k < n
        · obtain ⟨hg0, hc⟩ := hR0.out (by omega)
          obtain ⟨h0, h1, h2⟩ := hc k hlt
          have c0 := (L.cell (p := ⟨g, k * 3, none⟩) hg0).trans h0
          have c1 := (L.cell (p := ⟨g, k * 3 + 1, none⟩) hg0).trans h1
          have c2 := (L.cell (p := ⟨g, k * 3 + 2, none⟩) hg0).trans h2
          have hgw : g < wr.heap.size := Nat.lt_of_lt_of_le hg0 hw
          obtain ⟨o0, o1, o2⟩ := HOP.out k hlt
          have hT := HT.out k
          have hX := HX.out k
          have hF := HF.out k
          have hlen := HKL.out k
          obtain ⟨p, hp⟩ : ∃ p, rs.getD k rg0 = p := ⟨_, rfl⟩
          rw [hp] at c0 c1 c2 o0 o1 o2 hT hX hF
          obtain ⟨y, f, t⟩ := p
          dsimp only at c0 c1 c2 o0 o1 o2 hT hX hF
          have con := fun W => i_span7 ⟨y.toArray⟩ f t m W o0 o1 o2 m0 m9
          obtain ⟨q, hq⟩ : ∃ q, rsp f t m = q := ⟨_, rfl⟩
          rw [hq] at con hT hF
          obtain ⟨⟨qa, qb⟩, qo⟩ := q
          dsimp only at con hT hF
          have CON := Lib.hid con
          have V1 := V.alloc (.cells #[.string ⟨y.toArray⟩, .int .i64 f, .int .i64 t] 53)
          have L1 := below_more L hw (.cells #[.string ⟨y.toArray⟩, .int .i64 f, .int .i64 t] 53)
          have B1 := Blk.new wr 53 #[.string ⟨y.toArray⟩, .int .i64 f, .int .i64 t]
          have b0 := B1.c0
          have b1 := B1.c1
          have b2 := B1.c2
          have HTT := Lib.hid hT
          have HXX := Lib.hid hX
          have HFF := Lib.hid hF
          clear con hc h0 h1 h2 hp hq hT hX hF V L
          go_wp2_with fail
          refine (CON.out _).mono ?_
          rintro e w2 ⟨rfl, hb⟩
          have L2 := below_step L1 hb
          have hw2 := L2.size
          have hz2 : wr.heap.size + 1 ≤ w2.heap.size := by have := hb.size; simpa using this
          have V3 := (V1.below hb).alloc (.cells #[.int .i64 qa, .int .i64 qb] 62)
          have L3 := below_more L2 hw2 (.cells #[.int .i64 qa, .int .i64 qb] 62)
          have hL3 := L3.size
          have X := Blk.new w2 62 #[.int .i64 qa, .int .i64 qb]
          have x0 := X.c0
          have x1 := X.c1
          have B3 := (B1.below hb (by simp)).alloc (.cells #[.int .i64 qa, .int .i64 qb] 62)
          replace b0 := B3.c0
          clear c0 c1 c2 hgw hb CON X L2 V1 L1 B1 B3 b1 b2
          by_cases hyx : y = xl
          · subst hyx
            cases qo with
            | true =>
              have HK := Lib.hid (HTT.out rfl rfl)
              clear HTT HXX HFF
              go_wp2_with (at_builtin; refine wpList_appP rfl _ _ rfl _ _ _ _ _ _ rfl V3 _ (by simp) rfl (by omega) hL3 ?_; intro v2 w3 V2 hg2)
              go_roundw
              case rel => exact ⟨k + 1, by omega, by go_num, by rw [HK.out]; exact V2, V3.below_grown L3 hg2 hL3⟩
              case measure => simp [intOf]; omega
            | false =>
              have HK := Lib.hid (HFF.out rfl)
              clear HTT HXX HFF
              go_wp2_with fail
              go_roundw
              case rel => exact ⟨k + 1, by omega, by go_num, by rw [HK.out]; exact V3, L3⟩
              case measure => simp [intOf]; omega
          · have HK := Lib.hid (HXX.out hyx)
            have hne := str_ne hyx
            have hne2 : decide (y = xl) = false := by simpa using hyx
            have hne3 : decide ((⟨y.toArray⟩ : ByteArray) = ⟨xl.toArray⟩) = false := by simpa using hyx
            have hne4 : (y == xl) = false := beq_eq_false_iff_ne.2 hyx
            clear HTT HXX HFF
            cases qo
            all_goals
              go_wp2_with fail
              go_roundw
              case rel => exact ⟨k + 1, by omega, by go_num, by rw [HK.out]; exact V3, L3⟩
              case measure => simp [intOf]; omega
        · obtain rfl : k = n := by omega
          have hkl := HKL.out k
          have hks := HKK.out
          have h30 := HU30.out
          have LL := below_step hb0 L
          have hG := HG.out
          obtain ⟨K, hK⟩ : ∃ K, kyT rs xl m k = K := ⟨_, rfl⟩
          rw [hK] at V hkl hks hG
          clear hK HU30 HKK HG
          obtain ⟨_, A, cc, hv, _⟩ := V.opened
          subst hv
          by_cases hK : K = []
          · rw [if_pos hK] at hG
            have HG := Lib.hid hG
            subst hK
            rw [show ([] : List Sp).length = 0 from rfl]
            clear V hks h30 hG
            go_wp2_with fail
            go_ret2
            exact ⟨_, by rw [← HG.out]; rfl, by rw [← HG.out]; exact OwnP.nil _ _, LL⟩
          · rw [if_neg hK] at hG
            have hl0 : 0 < K.length := List.length_pos_iff.2 hK
            have UN := Lib.hid (i_united wr V (by omega) (fun s hs => (hks s hs).1) (fun s hs => (hks s hs).2))
            have h30' : (uni K).length ≤ 300 := by rw [← hG] at h30; have : (uni K).length ≤ 30 := h30; omega
            obtain ⟨U, hU⟩ : ∃ U, uni K = U := ⟨_, rfl⟩
            rw [hU] at UN hG h30'
            have HG := Lib.hid hG
            obtain ⟨q, hq⟩ : ∃ q, K.length = q := ⟨_, rfl⟩
            rw [hq] at hl0 UN ⊢
            have hq0 : ¬ (q : Int) = 0 := by omega
            clear hK V hks hq hkl hU h30 hG
            go_wp2_with fail
            refine UN.out.mono ?_
            rintro e w3 ⟨v3, rfl, V3, L3⟩
            go_wp2_with fail
            refine (i_lim _ V3 h30').mono ?_
            rintro e w4 ⟨rfl, rfl⟩
            go_wp2_with fail
            go_ret2
            exact ⟨_, by rw [← HG.out]; rfl, by rw [← HG.out]; exact V3.mono LL.size, below_step LL L3⟩
end Go.Proofs.YtoadkljaiegnlaaDoor
