/- append in a world that a drawn region has left, and append of a whole list. Conditions: how the slices lie. -/
import Derived.Test.YtoadkljaiegnlaaDoorPRow
namespace Go.Proofs.YtoadkljaiegnlaaDoor
open Go.RowKit
theorem OwnP.to {w : World} {b : Nat} {v : Value} {xs ys : List Sp} (h : OwnP w b v xs) (e : xs = ys) : OwnP w b v ys := e ▸ h
theorem wpList_appPd {ops : Array Oper} {rest : List Oper} {o : Oper} {a : Act} {Q : Exit → Act → World → Prop} (hgd : o.guard = none) (s x : Operand)
    (ho : o.op = .call { callee := .builtin .append, args := #[s, x], argTypes := #[30, 30] }) (wr : World) (base : Nat) (v : Value) (l : List Sp) (y z : Int)
    (hs : a.eval s = v) (hown : OwnP wr base v l) (g : Nat) (hg : g = wr.heap.size) (hx : a.eval x = .slice (some ⟨g, 0, none⟩) 1 1) (hlen : l.length ≤ 10000000) (hbase : base ≤ wr.heap.size)
    (h : ∀ v' w', OwnP w' base v' (l ++ [(y, z)]) → wr.grownBy w' v.ownBlock → wpList Tryd.prog ops Q rest (a.put o.dst v') w') :
    wpList Tryd.prog ops Q (o :: rest) a (wr.alloc (.cells #[.int .i64 y, .int .i64 z] 62)).drew :=
  wpList_appP hgd s x ho wr.drew base v l y z hs hown.drew g hg hx hlen hbase (fun v' w' h1 h2 => h v' w' h1 (grown_trans (grown_of_below (Below.refl wr.heap.size wr).drew _) h2))
end Go.Proofs.YtoadkljaiegnlaaDoor
