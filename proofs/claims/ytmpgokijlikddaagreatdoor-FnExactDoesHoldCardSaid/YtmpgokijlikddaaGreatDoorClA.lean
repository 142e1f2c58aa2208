/- IsClause at any kind: the program's and the reference's functions return what the plain function says. Condition: a length that a machine can hold. -/
import Derived.Test.YtmpgokijlikddaaGreatDoorClS
namespace Go.Proofs.YtmpgokijlikddaaGreatDoor
open Go.RowKit
theorem i_cl (q n m f r d s : Int) (k : ByteArray) (w : World) (hs : k.size ≤ 9223372036854775807) : Calls Tryz.prog 97 #[.agg #[.int .i64 q, .int .i64 n, .int .i64 m, .int .i64 f, .int .i64 r, .int .i64 d, .int .i64 s, .string k]] w fun e w' => e = .returned (.bool (clB q n m f r d s k)) ∧ Below w.heap.size w w' := by
  by_cases h0 : q = 0
  · subst h0; exact i_cl0 n m f r d s k w
  · by_cases h1 : q = 1
    · subst h1; exact i_cl1 n m f r d s k w
    · by_cases h2 : q = 2
      · subst h2; exact i_cl2 n m f r d s k w hs
      · by_cases h3 : q = 3
        · subst h3; exact i_cl3 n m f r d s k w
        · by_cases h4 : q = 4
          · subst h4; exact i_cl4 n m f r d s k w
          · by_cases h5 : q = 5
            · subst h5; exact i_cl5 n m f r d s k w
            · exact i_clE q h0 h1 h2 h3 h4 h5 n m f r d s k w
theorem s_cl (q n m f r d s : Int) (k : ByteArray) (w : World) (hs : k.size ≤ 9223372036854775807) : Calls Tryz.prog 153 #[.agg #[.int .i64 q, .int .i64 n, .int .i64 m, .int .i64 f, .int .i64 r, .int .i64 d, .int .i64 s, .string k]] w fun e w' => e = .returned (.bool (clB q n m f r d s k)) ∧ Below w.heap.size w w' := by
  by_cases h0 : q = 0
  · subst h0; exact s_cl0 n m f r d s k w
  · by_cases h1 : q = 1
    · subst h1; exact s_cl1 n m f r d s k w
    · by_cases h2 : q = 2
      · subst h2; exact s_cl2 n m f r d s k w hs
      · by_cases h3 : q = 3
        · subst h3; exact s_cl3 n m f r d s k w
        · by_cases h4 : q = 4
          · subst h4; exact s_cl4 n m f r d s k w
          · by_cases h5 : q = 5
            · subst h5; exact s_cl5 n m f r d s k w
            · exact s_clE q h0 h1 h2 h3 h4 h5 n m f r d s k w
end Go.Proofs.YtmpgokijlikddaaGreatDoor
