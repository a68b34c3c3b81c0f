/- What is older stays, but for some blocks; rows of cells; pieces of a function's code. -/
import Derived.Test.YtimecmleaeimkaaDoorBase2
import Derived.Laws.CopyRow
import Derived.Laws.CopyOwn
import Derived.RangeFuncRecord
namespace Go.Proofs.YtimecmleaeimkaaDoor
open Go.RowKit
set_option linter.unusedVariables false

/-- What is older stays, but for the blocks of S. -/
structure Exts (S : Nat → Prop) (w w' : World) : Prop where
  os : w'.os = w.os
  tape : w'.tape = w.tape
  output : w'.output = w.output
  size : w.heap.size ≤ w'.heap.size
  block : ∀ k, k < w.heap.size → ¬ S k → w'.heap[k]? = w.heap[k]?
section
variable {S T : Nat → Prop} {a b c : World}
theorem Ext.exts (h : Ext a b) : Exts S a b := ⟨h.os, h.tape, h.output, h.size, fun k hk _ => h.block k hk⟩
theorem Exts.refl (a : World) : Exts S a a := (Ext.refl a).exts
theorem Exts.ext (h : Exts S a b) (hn : ∀ k, S k → a.heap.size ≤ k) : Ext a b :=
  ⟨h.os, h.tape, h.output, h.size, fun k hk => h.block k hk (fun hs => by have := hn k hs; omega)⟩
theorem Exts.mono (h : Exts S a b) (hs : ∀ k, k < a.heap.size → S k → T k) : Exts T a b := ⟨h.os, h.tape, h.output, h.size, fun k hk hn => h.block k hk (fun h => hn (hs k hk h))⟩
theorem Exts.trans (h : Exts S a b) (k : Exts S b c) : Exts S a c :=
  ⟨k.os.trans h.os, k.tape.trans h.tape, k.output.trans h.output, Nat.le_trans h.size k.size, fun i hi hn => (k.block i (Nat.lt_of_lt_of_le hi h.size) hn).trans (h.block i hi hn)⟩
theorem Exts.then (h : Exts S a b) (k : Ext b c) : Exts S a c := h.trans k.exts
theorem Exts.alloc (h : Exts S a b) (o : Obj) : Exts S a (b.alloc o) := h.then (Ext.alloc (Ext.refl b) o)
theorem Exts.drew (h : Exts S a b) : Exts S a b.drew := h.then (Ext.drew (Ext.refl b))
theorem Exts.drewN (h : Exts S a b) (n : Nat) : Exts S a (b.drewN n) := h.then (Ext.drewN (Ext.refl b) n)
theorem Exts.setRow (h : Exts S a b) {g : Nat} (hg : S g ∨ a.heap.size ≤ g) (cs : Array Value) : Exts S a (b.setRow g cs) :=
  ⟨h.os, h.tape, h.output, by simpa [World.setRow] using h.size, fun k hk hn => (setRow_other b g k cs (by rintro rfl; exact hg.elim hn (fun h => by omega))).trans (h.block k hk hn)⟩
theorem Exts.setCell (h : Exts S a b) {p : Addr} (hg : S p.block ∨ a.heap.size ≤ p.block) (v : Value) : Exts S a (b.setCell p v) :=
  ⟨h.os, h.tape, h.output, by simpa [World.setCell] using h.size, fun k hk hn => (Below.heap_setCell b p v k (by rintro rfl; exact hg.elim hn (fun h => by omega))).trans (h.block k hk hn)⟩
theorem Exts.blk (h : Exts S a b) {g : Nat} {o : Obj} (hc : a.heap[g]? = some o) (hn : ¬ S g) : b.heap[g]? = some o :=
  (h.block g (Array.getElem?_eq_some_iff.1 hc).1 hn).trans hc
theorem Exts.cell (h : Exts S a b) {p : Addr} {v : Value} (hc : a.cell? p = some v) (hn : ¬ S p.block) : b.cell? p = some v :=
  (World.cell?_of_block (h.block p.block (World.block_lt_of_cell? a p hc) hn)).trans hc
end
theorem row_cell {w : World} {g : Nat} {cs : Array Value} {t : TypeId} {fr : Nat × Nat} (h : w.heap[g]? = some (.cells cs t fr)) {j : Nat} {v : Value} (hj : cs[j]? = some v) : w.cell? ⟨g, j, none⟩ = some v :=
  (cell_of_row w g j cs t fr h).trans hj
theorem row_lt {w : World} {g : Nat} {o : Obj} (h : w.heap[g]? = some o) : g < w.heap.size := (Array.getElem?_eq_some_iff.1 h).1
theorem alloc_at (w : World) (o : Obj) {n : Nat} (h : w.heap.size = n) : (w.alloc o).heap[n]? = some o := h ▸ heap_alloc_new w o
/-- A store into one cell of a row. -/
theorem setCell_row {w : World} {g j : Nat} {cs : Array Value} {t : TypeId} {fr : Nat × Nat} (h : w.heap[g]? = some (.cells cs t fr)) (v : Value) : (w.setCell ⟨g, j, none⟩ v).heap[g]? = some (.cells (cs.setIfInBounds j v) t fr) := by
  have hlt := row_lt h
  show (w.heap.modify g _)[g]? = _
  rw [Array.getElem?_eq_getElem (by rw [Array.size_modify]; exact hlt), Array.getElem_modify_self]
  obtain ⟨_, hk⟩ := Array.getElem?_eq_some_iff.1 h
  rw [hk]
  rfl

/-- The end of such a region: the world gets a name. -/
theorem wpSeq_fin {P : Program} {ops : Array Oper} {C : World → Prop} {Q : Exit → Act → World → Prop} {a : Act} {w : World} (h : ∀ W, Hd (W = w) → C W → Q .normal a W) :
    wpSeq P ops C (fun a' w' => C w' → Q .normal a' w') [] a w := fun hC => h w ⟨rfl⟩ hC

/-- A copy out of cells that are known into a row, in a region of open order. -/
theorem busy_copy_row {P : Program} {o : Oper} {a : Act} {C : World → Prop} {w : World} {K : Value → World → Prop} (d s : Operand) (dT sT : TypeId)
    (ho : o.op = .call { callee := .builtin .copy, args := #[d, s], argTypes := #[dT, sT] }) (elem : TypeId) (hu : P.underlying dT = some (.slice elem)) (hs : (P.info? elem).map (·.size) = some 1)
    (g off dLen dCap : Nat) (p : Addr) (sLen sCap : Nat) (hd : a.eval d = .slice (some ⟨g, off, none⟩) dLen dCap) (hsv : a.eval s = .slice (some p) sLen sCap)
    (cur : Array Value) (t : TypeId) (hg : w.heap[g]? = some (.cells cur t (0, 0))) (cs : List Value) (hn : cs.length = Nat.min sLen dLen)
    (hsrc : ∀ j v, cs[j]? = some v → w.cell? (p.add j) = some v) (hfit : off + cs.length ≤ cur.size) (h1 : ∀ v ∈ cs, v.oneCell' = true)
    (hC : C (w.setRow g (cur.toList.take off ++ cs ++ cur.toList.drop (off + cs.length)).toArray))
    (h : K (goInt cs.length) (w.setRow g (cur.toList.take off ++ cs ++ cur.toList.drop (off + cs.length)).toArray)) : busyAt P o a C w K := by
  have hr := run_copy_row (P := P) w dT sT o.type elem g off dLen dCap p sLen sCap cur t cs hu hs hg hn hsrc hfit h1
  unfold busyAt
  simp [execOp, ho, resolve, invoke, builtin, hd, hsv, hr, Result.andThen, busyUpon]
  simp only [List.append_assoc] at hC h
  exact ⟨hC, h⟩
end Go.Proofs.YtimecmleaeimkaaDoor
