/- Rows of spans put in order by slices.SortFunc. Conditions: how the slice lies. -/
import Derived.Test.YtoadkljaiegnlaaDoorPRow
import Derived.Test.YtoadkljaiegnlaaDoorInsP
import Derived.Test.YtoadkljaiegnlaaDoorShelf
import Derived.Shelf.SlSortCmp.WholeK
import Derived.Shelf.SlSortCmp.NoneTotal
namespace Go.Proofs.YtoadkljaiegnlaaDoor
open Go.RowKit Go.Sort Go.Shelf Go.Lib
def encSp (s : Sp) : List Value := [.int .i64 s.1, .int .i64 s.2]
theorem flatK_eq (l : List Sp) : flatK encSp 2 l.toArray = (flatP l).toArray := by
  refine ext_get! (by simp [flatP_len]) fun t ht => ?_
  have ht' : t < l.toArray.size * 2 := by simpa using ht
  rw [get_flatK _ _ _ _ ht']
  have hj : t / 2 < l.length := by simp at ht'; omega
  have e0 : (l.toArray)[t / 2]! = l.getD (t / 2) sp0 := by
    rw [getElem!_pos _ _ (by simpa using hj)]
    simp [hj]
  rw [e0]
  rcases Nat.mod_two_eq_zero_or_one t with h | h
  · have e : t / 2 * 2 = t := by omega
    have f := flatP_0 l (t / 2) hj
    rw [e] at f
    obtain ⟨ht2, f⟩ := List.getElem?_eq_some_iff.1 f
    have g : (flatP l).toArray[t]! = .int .i64 (l.getD (t / 2) sp0).1 := by
      rw [getElem!_pos (flatP l).toArray t (by simpa using ht2), List.getElem_toArray, f]
    rw [g, h]
    rfl
  · have e : t / 2 * 2 + 1 = t := by omega
    have f := flatP_1 l (t / 2) hj
    rw [e] at f
    obtain ⟨ht2, f⟩ := List.getElem?_eq_some_iff.1 f
    have g : (flatP l).toArray[t]! = .int .i64 (l.getD (t / 2) sp0).2 := by
      rw [getElem!_pos (flatP l).toArray t (by simpa using ht2), List.getElem_toArray, f]
    rw [g, h]
    rfl
theorem holdsP {w : World} {g : Nat} {cur : Array Value} {e : TypeId} {l : List Sp} (hb : w.heap[g]? = some (.cells cur e (0, 0))) (ht : cur.toList.take (l.length * 2) = flatP l) : HoldsK encSp 2 w g 0 l.toArray := by
  unfold HoldsK
  rw [flatK_eq]
  intro j hj
  have hj' : j < l.length * 2 := by simpa [flatP_len] using hj
  refine ⟨?_, by simp [World.frozen?, hb]⟩
  have h1 : (cur.toList.take (l.length * 2))[j]? = (flatP l)[j]? := by rw [ht]
  rw [List.getElem?_take_of_lt hj'] at h1
  simp only [World.cell?, hb, Nat.zero_add]
  simp only [Option.isSome_none, Bool.false_eq_true, if_false]
  rw [← Array.getElem?_toList, h1]
  have hj2 : j < (flatP l).length := by rw [flatP_len]; exact hj'
  simp [hj2]
theorem heap_sortedP {w : World} {g n : Nat} {os : Array Obj} {cur : Array Value} {e : TypeId} {fr : Nat × Nat} (d : Array Value) (hb : w.heap[g]? = some (.cells cur e fr)) :
    (grow (putRow id (Sort.ahead w n) g 0 d) os).heap[g]? = some (.cells (putCells id 0 d cur) e fr) := by
  have hg : g < w.heap.size := (Array.getElem?_eq_some_iff.1 hb).1
  rw [heap_grow_old _ _ (by simpa using hg)]
  simp [putRow, mapBlock, Sort.ahead, Array.getElem?_modify, hb, onCells]
theorem grownBy_sortedP {w : World} {g n : Nat} {os : Array Obj} (d : Array Value) : w.grownBy (grow (putRow id (Sort.ahead w n) g 0 d) os) (some g) := by
  refine ⟨rfl, rfl, rfl, by simp, fun k hk hne => ?_⟩
  rw [heap_grow_old _ _ (by simpa using hk)]
  have : g ≠ k := fun e => hne (by rw [e])
  simp [putRow, mapBlock, Sort.ahead, Array.getElem?_modify, this]
theorem take_putCellsP (cur : Array Value) (ts : List Value) (h : ts.length ≤ cur.size) : (putCells id 0 ts.toArray cur).toList.take ts.length = ts := by
  apply List.ext_getElem?
  intro j
  by_cases hj : j < ts.length
  · rw [List.getElem?_take_of_lt hj, Array.getElem?_toList]
    simp [putCells, hj, show j < cur.size by omega]
  · rw [List.getElem?_take_eq_none (by omega), List.getElem?_eq_none (by omega)]
/-- behind the sort the slice owns the spans in their new order -/
theorem ownsP_sorted {w : World} {base g cap n : Nat} {os : Array Obj} {cur : Array Value} {l m : List Sp} (hl : m.length = l.length) (hbase : base ≤ g) (hb : w.heap[g]? = some (.cells cur 62 (0, 0)))
    (h1 : l.length ≤ cap) (h2 : cap ≤ maxLen) (h3 : cur.size = cap * 2) : OwnP (sortWorldK encSp 2 w g 0 n m.toArray os) base (.slice (some ⟨g, 0, none⟩) l.length cap) m := by
  unfold OwnP sortWorldK putRowK
  rw [flatK_eq, hl]
  refine ⟨by rw [flatP_len, hl], .inr ⟨g, cap, _, rfl, hbase, heap_sortedP _ hb, h1, h2, by simp [putCells, h3], ?_⟩⟩
  have := take_putCellsP cur (flatP m) (by rw [flatP_len, hl, h3]; omega)
  rw [flatP_len, hl] at this
  exact this
def cmpI (x y : Int) : Int := if x < y then -1 else if y < x then 1 else 0
theorem ltLo (x y : Sp) : ltOf (fun x y : Sp => cmpI x.1 y.1) x y = decide (x.1 < y.1) := by
  unfold ltOf cmpI
  by_cases h1 : x.1 < y.1
  · simp [h1]
  · by_cases h2 : y.1 < x.1 <;> simp [h1, h2]
theorem swoLo : SWO (ltOf fun x y : Sp => cmpI x.1 y.1) where
  irrefl x := by rw [ltLo]; simp
  trans x y z h1 h2 := by rw [ltLo] at *; simp at *; omega
  ntrans x y z h1 h2 := by rw [ltLo] at *; simp at *; omega
theorem i_cmp (x y : Int) (w : World) : Calls Tryd.prog 84 #[.int .i64 x, .int .i64 y] w fun e w' => e = .returned (.int .i64 (cmpI x y)) ∧ w' = w := by
  unfold cmpI
  by_cases h1 : x < y
  · rw [if_pos h1]
    go_enter Tryd.func84, Tryd.ntmps84
    go_wp2_with (go_at_call 112; go_in)
    go_ret
    exact ⟨rfl, rfl⟩
  · rw [if_neg h1]
    by_cases h2 : y < x
    · rw [if_pos h2]
      go_enter Tryd.func84, Tryd.ntmps84
      go_wp2_with (go_at_call 112; go_in)
      go_ret
      exact ⟨rfl, rfl⟩
    · rw [if_neg h2]
      obtain rfl : x = y := by omega
      go_enter Tryd.func84, Tryd.ntmps84
      go_wp2_with (go_at_call 112; go_in)
      go_ret
      exact ⟨rfl, rfl⟩
theorem i_cmp1 (x y : Sp) (W : World) : Calls Tryd.prog 83 #[.agg #[.int .i64 x.1, .int .i64 x.2], .agg #[.int .i64 y.1, .int .i64 y.2]] W fun e w' => e = .returned (.int .i64 (cmpI x.1 y.1)) ∧ ∃ q os', w' = grow (W.drewN q) os' := by
  have hcon := fun W' => i_cmp x.1 y.1 W'
  obtain ⟨x0, x1⟩ := x
  obtain ⟨y0, y1⟩ := y
  dsimp only at hcon ⊢
  generalize cmpI x0 y0 = r at hcon ⊢
  go_enter Tryd.func83, Tryd.ntmps83
  go_wp2_with (go_at_call 84; refine (hcon _).mono ?_; rintro e w' ⟨rfl, rfl⟩)
  go_ret
  exact ⟨rfl, 0, _, by rw [alloc_eq_grow, alloc_eq_grow, grow_grow]; rfl⟩
theorem i_sort {b : Nat} {v : Value} {l : List Sp} (w : World) (h : OwnP w b v l) (hl : l.length ≤ 100000) :
    Calls Tryd.prog 82 #[v, .func (.func 83) #[] #[]] w fun e w' => e = .returned (.tuple #[]) ∧
      ∃ m : List Sp, m.Perm l ∧ m.Pairwise (fun a b => a.1 ≤ b.1) ∧ OwnP w' b v m ∧ w.grownBy w' v.ownBlock := by
  rcases h.2 with ⟨rfl, hn⟩ | ⟨g, cap, cur, rfl, hbase, hblk, hnc, hcm, hsz, htk⟩
  · have hcon := AnyF.slices_SortFunc_none { Tryd.sortSp with } none 0 (.func (.func 83) #[] #[]) w
    change Calls Tryd.prog 82 _ _ _ at hcon
    obtain rfl : l = [] := List.length_eq_zero_iff.1 hn
    exact hcon.mono fun e w' ⟨he, hw⟩ => ⟨he, [], List.Perm.nil, List.Pairwise.nil, by first | (subst hw; exact h) | (rw [← hw]; exact h) , by first | (subst hw; exact World.grownBy.refl _ _) | (rw [← hw]; exact World.grownBy.refl _ _)⟩
  · have eg : ∀ args w, (callFunc 83 args).run Tryd.prog w = .ok (.enter 83 args) w := enters_of Tryd.func83 (by kernel_rfl) rfl
    have hcon := AnyQ.slices_SortFunc Tryd.sortSp 2 Tryd.isAgg62 Tryd.sizeOf62 encSp (fun _ => rfl) (fun x v hv => by simp [encSp] at hv; rcases hv with rfl | rfl <;> rfl) (fun x y : Sp => cmpI x.1 y.1) swoLo 83 #[] g 0 cap l.toArray w eg (fun _ _ _ _ x y => i_cmp1 x y _) (holdsP hblk htk) ((Array.getElem?_eq_some_iff.1 hblk).1) (by simp; omega)
    change Calls Tryd.prog 82 _ _ _ at hcon
    refine hcon.mono ?_
    rintro e w' ⟨rfl, d', n, os, hp, hs, rfl⟩
    obtain ⟨p1, p2, p3⟩ := hp
    have hsz' : d'.size = l.length := by simpa using p1
    have e1 : d'.extract 0 l.toArray.size = d' := by
      have : l.toArray.size = d'.size := by simp [hsz']
      rw [this]; simp
    have e2 : l.toArray.extract 0 l.toArray.size = l.toArray := by simp
    rw [e1, e2] at p3
    refine ⟨rfl, d'.toList, by simpa using p3, ?_, ?_, ?_⟩
    · rw [List.pairwise_iff_getElem]
      intro i j hi hj hij
      have hi' : i < d'.size := by simpa using hi
      have hj' : j < d'.size := by simpa using hj
      have := hs i j (Nat.zero_le _) hij (by simpa [hsz'] using hj')
      rw [ltLo, getElem!_pos d' i hi', getElem!_pos d' j hj'] at this
      simp at this
      simpa using this
    · have := ownsP_sorted (m := d'.toList) (l := l) (n := n) (os := os) (by simpa using hsz') hbase hblk hnc hcm hsz
      simpa using this
    · unfold sortWorldK putRowK
      exact grownBy_sortedP _
end Go.Proofs.YtoadkljaiegnlaaDoor
