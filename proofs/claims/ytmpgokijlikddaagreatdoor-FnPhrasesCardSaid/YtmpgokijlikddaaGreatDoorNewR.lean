/- strings.NewReplacer at the eight texts of normalWord. Condition: how they lie. -/
import Derived.Test.YtmpgokijlikddaaGreatDoorStrs
import Derived.Test.YtmpgokijlikddaaGreatDoorBlk
import Derived.Test.YtmpgokijlikddaaGreatDoorNrmP
namespace Go.Proofs.YtmpgokijlikddaaGreatDoor
open Go.RowKit
def rep8 : List (List UInt8) := [[118], [117], [106], [105], [121], [105], [119], [117, 117]]
/-- a replacer that is not yet built, in block b -/
def IsRep (w : World) (b base : Nat) : Prop := ∃ v, Blk w b 237 #[.int .u32 0, .int .i32 0, .int .u32 0, .nilIface, v] ∧ OwnS w base v rep8
theorem wpList_appS8 {ops : Array Oper} {rest : List Oper} {o : Oper} {a : Act} {Q : Exit → Act → World → Prop} (hgd : o.guard = none) (s x : Operand)
    (ho : o.op = .call { callee := .builtin .append, args := #[s, x], argTypes := #[59, 59] }) (wr : World) (base : Nat) (ys : List (List UInt8)) (g c : Nat)
    (hs : a.eval s = .slice none 0 0) (hB : Blk wr g 9 ⟨ys.map sv⟩) (hx : a.eval x = .slice (some ⟨g, 0, none⟩) ys.length c) (hlen : ys.length ≤ 10000000) (hpos : 0 < ys.length) (hbase : base ≤ wr.heap.size)
    (h : ∀ v' w', OwnS w' base v' ys → wr.grownBy w' none → wpList Tryz.prog ops Q rest (a.put o.dst v') w') :
    wpList Tryz.prog ops Q (o :: rest) a wr := by
  obtain ⟨i0, hi, hz0, hz1, hz2⟩ := info_parts infoS
  refine wpList_append_own _ hgd s x 59 ho base 9 i0 (.string ByteArray.empty) 1 16 Tryz.underlying59 hi hz0 hz1 hz2 rfl (by decide) (.slice none 0 0) 0 [] hs (OwnS.nil wr base)
    ⟨g, 0, none⟩ ys.length c (ys.map sv) hx (by simp) ?_ ?_ ?_ ?_ ?_ ?_
  · intro j u hu
    have e : (⟨g, 0, none⟩ : Addr).add j = ⟨g, j, none⟩ := by unfold Addr.add; split <;> simp_all
    first
      | (rw [e, hB.cell j]; simpa using hu)
      | (rw [hB.cell j]; simpa using hu)
      | (show wr.cell? ⟨g, 0 + j, none⟩ = _; rw [Nat.zero_add, hB.cell j]; simpa using hu)
  · intro u hu
    obtain ⟨y, _, rfl⟩ := List.mem_map.1 hu
    rfl
  · unfold maxLen; omega
  · omega
  · omega
  · intro v' w' hown' hgr _
    refine h v' w' ?_ hgr
    unfold OwnS
    simpa using hown'
set_option maxRecDepth 100000 in
theorem i_newrep (g c : Nat) (w : World) (h : Blk w g 9 ⟨rep8.map sv⟩) : Calls Tryz.prog 223 #[.slice (some ⟨g, 0, none⟩) 8 c] w fun e w' => ∃ b, e = .returned (.pointer (some ⟨b, 0, none⟩)) ∧ IsRep w' b w.heap.size ∧ w.heap.size ≤ b ∧ Below w.heap.size w w' := by
  go_enter Tryz.func223, Tryz.ntmps223
  go_wp2_with (at_builtin; refine wpList_appS8 rfl _ _ rfl _ _ rep8 g c rfl h rfl (by decide) (by decide) (Nat.le_refl _) ?_; intro v2 w9 hown2 hg2; obtain ⟨-, A2, c2, rfl, -⟩ := hown2.opened)
  go_ret
  have hb : Below w.heap.size w w9 := ⟨hg2.os, hg2.tape, hg2.output, hg2.size, fun i hi => hg2.block i hi (by simp)⟩
  exact ⟨_, rfl, ⟨_, Blk.new w9 _ _, hown2.alloc _⟩, hg2.size, below_more hb hg2.size _⟩
end Go.Proofs.YtmpgokijlikddaaGreatDoor
