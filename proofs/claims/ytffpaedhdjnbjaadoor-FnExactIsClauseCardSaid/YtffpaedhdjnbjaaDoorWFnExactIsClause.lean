/- The program's IsClause returns what the reference's returns, for all clauses: the walk. No condition. -/
import Derived.Test.YtffpaedhdjnbjaaDoorRows
import Derived.Test.YtffpaedhdjnbjaaDoorKit
import Derived.Test.YtffpaedhdjnbjaaDoorClS
import Derived.Test.YtffpaedhdjnbjaaDoorClL
namespace Go.Proofs.YtffpaedhdjnbjaaDoor.fnExactIsClause
open Go.RowKit
set_option linter.unusedVariables false
-- door
theorem i_cl (q n m f r d s : Int) (k : ByteArray) (w : World) (hs : k.size ≤ 9223372036854775807) : Calls Tryd.prog 54 #[.agg #[.int .i64 q, .int .i64 n, .int .i64 m, .int .i64 f, .int .i64 r, .int .i64 d, .int .i64 s, .string k]] w fun e w' => e = .returned (.bool (clB q n m f r d s k)) ∧ Below w.heap.size w w' := by
  by_cases h0 : q = 0
  · subst h0; exact i_cl0 n m f r d s k w
  · by_cases h1 : q = 1
    · subst h1; exact i_cl1 n m f r d s k w
    · by_cases h2 : q = 2
      · subst h2; exact i_cl2 n m f r d s k w hs
      · by_cases h3 : q = 3
        · subst h3; exact i_cl3 n m f r d s k w
        · by_cases h4 : q = 4
          · subst h4; exact i_cl4 n m f r d s k w
          · by_cases h5 : q = 5
            · subst h5; exact i_cl5 n m f r d s k w
            · exact i_clE q h0 h1 h2 h3 h4 h5 n m f r d s k w
theorem s_cl (q n m f r d s : Int) (k : ByteArray) (w : World) (hs : k.size ≤ 9223372036854775807) : Calls Tryd.prog 52 #[.agg #[.int .i64 q, .int .i64 n, .int .i64 m, .int .i64 f, .int .i64 r, .int .i64 d, .int .i64 s, .string k]] w fun e w' => e = .returned (.bool (clB q n m f r d s k)) ∧ Below w.heap.size w w' := by
  by_cases h0 : q = 0
  · subst h0; exact s_cl0 n m f r d s k w
  · by_cases h1 : q = 1
    · subst h1; exact s_cl1 n m f r d s k w
    · by_cases h2 : q = 2
      · subst h2; exact s_cl2 n m f r d s k w hs
      · by_cases h3 : q = 3
        · subst h3; exact s_cl3 n m f r d s k w
        · by_cases h4 : q = 4
          · subst h4; exact s_cl4 n m f r d s k w
          · by_cases h5 : q = 5
            · subst h5; exact s_cl5 n m f r d s k w
            · exact s_clE q h0 h1 h2 h3 h4 h5 n m f r d s k w
set_option maxRecDepth 100000 in
theorem walk (q n m f r d s : Int) (k : ByteArray) (hs : k.size ≤ maxLen) (w : World) (_ : w.ShapedOpen Tryd.prog) : Calls Tryd.prog 10 #[.agg #[.int .i64 q, .int .i64 n, .int .i64 m, .int .i64 f, .int .i64 r, .int .i64 d, .int .i64 s, .string k]] w fun e w' => e = .returned (.bool true) ∧ Below w.heap.size w w' := by
  have hs' : k.size ≤ 9223372036854775807 := hs
  clear hs
  have BK := Blk.new w 68 #[.int .i64 q, .int .i64 n, .int .i64 m, .int .i64 f, .int .i64 r, .int .i64 d, .int .i64 s, .string k]
  by_cases hbig : 1048576 < k.size
  · have con := fun W => l_szClause q n m f r d s k 1048576 W hs' (by omega) (by omega)
    simp only [show ((1048576 : Int) < (k.size : Int)) = True from by simp; omega, if_true] at con
    clear BK
    go_enter Tryd.func10, Tryd.ntmps10
    go_wp2_with fail
    refine (con _).mono ?_
    rintro e w1 ⟨rfl, hb1⟩
    go_wp2_with fail
    go_ret
    exact ⟨rfl, below_step (below_alloc _ _) hb1⟩
  · have con := fun W => l_szClause q n m f r d s k 1048576 W hs' (by omega) (by omega)
    simp only [show ((1048576 : Int) < (k.size : Int)) = False from by simp; omega, if_false] at con
    have hlt : (0 : Int) ≤ 1048576 - (k.size : Int) := by omega
    have HB := Lib.hid BK
    have sc := fun W => s_cl q n m f r d s k W hs'
    have ic := fun W => i_cl q n m f r d s k W hs'
    obtain ⟨b, hb⟩ : ∃ b, clB q n m f r d s k = b := ⟨_, rfl⟩
    rw [hb] at sc ic
    clear hbig BK hb
    go_enter Tryd.func10, Tryd.ntmps10
    go_wp2_with fail
    refine (con _).mono ?_
    rintro e w1 ⟨rfl, hb1⟩
    have B1 := HB.out.below hb1 (by simp)
    have L1 := below_step (below_alloc _ _) hb1
    have c0 : w1.cell? ⟨w.heap.size, 0, none⟩ = some (.int .i64 q) := B1.cell 0
    have c1 : w1.cell? ⟨w.heap.size, 1, none⟩ = some (.int .i64 n) := B1.cell 1
    have c2 : w1.cell? ⟨w.heap.size, 2, none⟩ = some (.int .i64 m) := B1.cell 2
    have c3 : w1.cell? ⟨w.heap.size, 3, none⟩ = some (.int .i64 f) := B1.cell 3
    have c4 : w1.cell? ⟨w.heap.size, 4, none⟩ = some (.int .i64 r) := B1.cell 4
    have c5 : w1.cell? ⟨w.heap.size, 5, none⟩ = some (.int .i64 d) := B1.cell 5
    have c6 : w1.cell? ⟨w.heap.size, 6, none⟩ = some (.int .i64 s) := B1.cell 6
    have c7 : w1.cell? ⟨w.heap.size, 7, none⟩ = some (.string k) := B1.cell 7
    have hz1 := B1.lt
    go_wp2_with fail
    refine (l_toClause _ _ _ _ _ _ _ _ _).mono ?_
    rintro e w2 ⟨rfl, hb2⟩
    have L2 := L1.trans (hb2.mono (Nat.le_of_lt hz1))
    have B2 := B1.below hb2 B1.lt
    have c0 : w2.cell? ⟨w.heap.size, 0, none⟩ = some (.int .i64 q) := B2.cell 0
    have c1 : w2.cell? ⟨w.heap.size, 1, none⟩ = some (.int .i64 n) := B2.cell 1
    have c2 : w2.cell? ⟨w.heap.size, 2, none⟩ = some (.int .i64 m) := B2.cell 2
    have c3 : w2.cell? ⟨w.heap.size, 3, none⟩ = some (.int .i64 f) := B2.cell 3
    have c4 : w2.cell? ⟨w.heap.size, 4, none⟩ = some (.int .i64 r) := B2.cell 4
    have c5 : w2.cell? ⟨w.heap.size, 5, none⟩ = some (.int .i64 d) := B2.cell 5
    have c6 : w2.cell? ⟨w.heap.size, 6, none⟩ = some (.int .i64 s) := B2.cell 6
    have c7 : w2.cell? ⟨w.heap.size, 7, none⟩ = some (.string k) := B2.cell 7
    have hz2 := B2.lt
    go_wp2_with fail
    refine (sc _).mono ?_
    rintro e w3 ⟨rfl, hb3⟩
    have L3 := L2.trans (hb3.mono (Nat.le_of_lt hz2))
    have B3 := B2.below hb3 B2.lt
    have c0 : w3.cell? ⟨w.heap.size, 0, none⟩ = some (.int .i64 q) := B3.cell 0
    have c1 : w3.cell? ⟨w.heap.size, 1, none⟩ = some (.int .i64 n) := B3.cell 1
    have c2 : w3.cell? ⟨w.heap.size, 2, none⟩ = some (.int .i64 m) := B3.cell 2
    have c3 : w3.cell? ⟨w.heap.size, 3, none⟩ = some (.int .i64 f) := B3.cell 3
    have c4 : w3.cell? ⟨w.heap.size, 4, none⟩ = some (.int .i64 r) := B3.cell 4
    have c5 : w3.cell? ⟨w.heap.size, 5, none⟩ = some (.int .i64 d) := B3.cell 5
    have c6 : w3.cell? ⟨w.heap.size, 6, none⟩ = some (.int .i64 s) := B3.cell 6
    have c7 : w3.cell? ⟨w.heap.size, 7, none⟩ = some (.string k) := B3.cell 7
    have hz3 := B3.lt
    go_wp2_with fail
    refine (l_toClause _ _ _ _ _ _ _ _ _).mono ?_
    rintro e w4 ⟨rfl, hb4⟩
    have L4 := L3.trans (hb4.mono (Nat.le_of_lt hz3))
    have hz4 : w.heap.size < w4.heap.size := by have := hb4.size; omega
    go_wp2_with fail
    refine (ic _).mono ?_
    rintro e w5 ⟨rfl, hb5⟩
    have L5 := L4.trans (hb5.mono (Nat.le_of_lt hz4))
    cases b
    all_goals
      go_wp2_with fail
      go_ret
      exact ⟨rfl, L5⟩
end Go.Proofs.YtffpaedhdjnbjaaDoor.fnExactIsClause
