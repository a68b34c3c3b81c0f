/- The iteration over the blocks of octets: the iterator's contract and the law of a loop over it. -/
import Derived.Test.YtimecmleaeimkaaDoorDigX
import Derived.RangeFuncNested
import Derived.RangeFuncBound
import Derived.RangeFuncCalls
import Derived.RangeFuncLeaves
import Derived.Shelf.Abstract
import Derived.Shelf.RegionOpen
import Derived.OwnWalkIn
import Derived.TacticsInMore
import Derived.LoopNIn
import Derived.LoopIn
namespace Go.Proofs.YtimecmleaeimkaaDoor
open Go.RowKit
set_option linter.unusedVariables false
attribute [local go_sem] Oper.semAt_some

/-- What is left behind k blocks. -/
def rst (z : ByteArray) : Nat → ByteArray
  | 0 => z
  | k + 1 => (rst z k).extract 64 (rst z k).size
theorem rst_size (z : ByteArray) : ∀ k, (rst z k).size = z.size - 64 * k
  | 0 => by simp [rst]
  | k + 1 => by unfold rst; rw [ByteArray.size_extract, rst_size z k]; omega
/-- Block k. -/
def bk (z : ByteArray) (k : Nat) : ByteArray := (rst z k).extract 0 64
theorem bk_size (z : ByteArray) (k : Nat) (h : k < z.size / 64) : (bk z k).size = 64 := by unfold bk; rw [ByteArray.size_extract, rst_size]; omega
/-- The length of the string in a cell. -/
def cellLen (w : World) (g : Nat) : Nat := match w.cell? ⟨g, 0, none⟩ with | some (.string s) => s.size | _ => 0
theorem cellLen_of {w : World} {g : Nat} {s : ByteArray} (h : w.cell? ⟨g, 0, none⟩ = some (.string s)) : cellLen w g = s.size := by unfold cellLen; rw [h]

set_option maxHeartbeats 1000000 in
theorem blocks_c (s : ByteArray) (w : World) : Calls Tryd.prog 54 #[.string s] w fun e w' => e = .returned (clo1 90 w.heap.size) ∧ w' = w.alloc (.cells #[.string s] 9) := by
  go_enter Tryd.func54, Tryd.ntmps54
  go_wp2
  go_ret
  exact ⟨rfl, rfl⟩

set_option maxHeartbeats 1000000 in
set_option maxRecDepth 100000 in
theorem blocks1_in (n l g : Nat) (z : ByteArray) (J Jm : Nat → World → Prop) (hz : z.size ≤ 140737488355328)
    (hJ : ∀ k W, J k W → W.heap[g]? = some (.cells #[.string (rst z k)] 9 (0, 0)))
    (hJm : ∀ k W, Jm k W → W.heap[g]? = some (.cells #[.string (rst z k)] 9 (0, 0)))
    (hs : ∀ k W, Jm k W → J (k + 1) (W.setCell ⟨g, 0, none⟩ (.string (rst z (k + 1)))))
    (hY : ∀ k W, k < z.size / 64 → J k W → YieldAt Fence.wide (n - 1) Tryd.prog l #[.string (bk z k)] W fun e W' => e = .returned (.bool true) ∧ Jm k W')
    (W : World) (h0 : J 0 W) :
    CallsIn Fence.wide n Tryd.prog 90 #[.func (.yield l) #[] #[], .pointer (some ⟨g, 0, none⟩)] W fun e W' => (∃ v, e = .returned v) ∧ J (z.size / 64) W' := by
  refine callsIn_of_wp Tryd.func90 rfl trivial ?_ rfl
  simp only [Tryd.ntmps90, List.size_toArray, List.length_cons, List.length_nil, Nat.reduceAdd, Nat.reduceSub, Array.replicate_succ, Array.replicate_zero, List.push_toArray, List.append_toArray, List.nil_append, List.cons_append]
  gi_wp2
  gi_loopw [3] (fun p wr => ∃ k : Nat, k ≤ z.size / 64 ∧ J k wr) (fun p wr => cellLen wr g)
  case atStart => exact ⟨0, Nat.zero_le _, h0⟩
  case round =>
    obtain ⟨k, hk, hj⟩ := hrel
    have hrow := hJ k wr hj
    have hc := row_cell hrow (j := 0) (v := .string (rst z k)) rfl
    have hsz := rst_size z k
    have hlen := cellLen_of hc
    by_cases hlt : k < z.size / 64
    · obtain ⟨fn, tmps, assign, body, hy, hR⟩ := hY k wr hlt hj
      have hr1 := Hd.mk (show rst z (k + 1) = (rst z k).extract 64 (rst z k).size from rfl)
      unfold bk at hy
      generalize rst z k = r at *
      have hr64 : (64 : Int) ≤ r.size := by omega
      have Hlen := Hd.mk hlen
      have Hsz := Hd.mk hsz
      have Hrow := Hd.mk hrow
      clear hlen hsz hrow
      gi_wp2
      refine ⟨fun h => (by cases h), hR.mono ?_⟩
      rintro e W3 ⟨rfl, hm⟩
      have hrow3 := hJm k W3 hm
      have hs3 := hs k W3 hm
      have hc3 : W3.cell? ⟨g, 0, none⟩ = some (.string (rst z k)) := row_cell hrow3 rfl
      have hf3 := row_frozen hrow3 0
      have hsz3 := rst_size z k
      have hr2 := Hd.mk (show rst z (k + 1) = (rst z k).extract 64 (rst z k).size from rfl)
      have hsz4 := rst_size z (k + 1)
      have hcs : (W3.setCell ⟨g, 0, none⟩ (.string (rst z (k + 1)))).cell? ⟨g, 0, none⟩ = some (.string (rst z (k + 1))) := row_cell (setCell_row hrow3 _) rfl
      have Hms := Hd.mk (cellLen_of hcs)
      have Hs3 := Hd.mk hs3
      have Hsz4 := Hd.mk hsz4
      clear hrow3 hs3 hm hj hcs hsz4
      rw [hr2.out] at Hs3 Hms Hsz4
      generalize rst z k = q at *
      have hq64 : (64 : Int) ≤ q.size := by omega
      have Hsz3 := Hd.mk hsz3
      clear hsz3
      gi_wp2
      go_roundw
      case rel => exact ⟨k + 1, by omega, Hs3.out⟩
      case measure => have := Hsz3.out; have := Hsz.out; have := Hsz4.out; rw [Hms.out, Hlen.out]; omega
    · obtain rfl : k = z.size / 64 := by omega
      generalize rst z (z.size / 64) = r at *
      have hr64 : ¬ (64 : Int) ≤ r.size := by omega
      have Hj := Hd.mk hj
      clear hlen hsz hrow hj
      gi_wp2
      refine ⟨fun _ h => (by cases h), ?_⟩
      gi_wp2
      go_end0
      exact ⟨⟨_, rfl⟩, Hj.out⟩

/-- A loop over the blocks of octets whose body turns one row of cells. -/
theorem rangeBlocks {Q : Exit → Act → World → Prop} {a : Act} {w : World} {n : Nat} {p : Tmp} {assign body : Code} {gop : Operand} (gr g : Nat) (z : ByteArray) (cs : Nat → Array Value) (tr : TypeId)
    (hg : a.eval gop = .func (.func 90) #[] #[.pointer (some ⟨g, 0, none⟩)]) (hz : z.size ≤ 140737488355328)
    (hcell : w.heap[g]? = some (.cells #[.string z] 9 (0, 0))) (hrow : w.heap[gr]? = some (.cells (cs 0) tr (0, 0))) (hne : gr ≠ g) (a₁ : ByteArray → Act)
    (hassign : ∀ (l : Nat) (x : ByteArray) (W : World) (K : Act → World → Prop), K (a₁ x) W → assign.wpIn (Fence.wide.inRound l) (n - 1 - 1) Tryd.prog (Exit.then K (fun _ _ _ => False)) { tmps := a.tmps.setIfInBounds p (.string x), defers := [] } W)
    (hbody : ∀ (l k : Nat) (W : World), k < z.size / 64 → Exts (fun j => j = gr ∨ j = g) w W → W.heap[gr]? = some (.cells (cs k) tr (0, 0)) →
      body.wpIn (Fence.wide.inRound l) (n - 1 - 1) Tryd.prog (fun e _ W' => e = .normal ∧ Exts (· = gr) W W' ∧ W'.heap[gr]? = some (.cells (cs (k + 1)) tr (0, 0))) (a₁ (bk z k)) W)
    (hdone : ∀ (D : Nat) (W : World), w.heap.size ≤ D → Exts (fun j => j = gr ∨ j = g) w W → W.heap[gr]? = some (.cells (cs (z.size / 64)) tr (0, 0)) → W.heap[D]? = some (.deferred (some [])) →
      Q .normal { a with defers := { target := .collected D, args := #[] } :: a.defers } W) :
    (Code.rangeFunc gop #[p] assign body).wpIn Fence.wide n Tryd.prog Q a w := by
  refine wpIn_rangeFunc ?_
  intro fn hfn
  rw [show Fence.wide.round = none from rfl]
  have hgl : g < w.heap.size := row_lt hcell
  have hrl : gr < w.heap.size := row_lt hrow
  obtain ⟨rec, hrec⟩ : ∃ rec : LoopState → Option Code → Loop, rec = fun st pe => { state := st, pending := pe, fn, tmps := a.tmps, params := #[p], assign, body, defers := w.heap.size } := ⟨_, rfl⟩
  obtain ⟨W1, hW1⟩ : ∃ W1, (w.alloc (.deferred (some []))).alloc (.loop (rec .ready none)) = W1 := ⟨_, rfl⟩
  have hE1 : Ext w W1 := by rw [← hW1]; exact Ext.alloc (Ext.alloc (Ext.refl _) _) _
  have hL1 : W1.heap[w.heap.size + 1]? = some (.loop (rec .ready none)) := by rw [← hW1]; exact heap_new _ _ (by simp)
  have hK1 : W1.heap[w.heap.size]? = some (.deferred (some [])) := by rw [← hW1]; exact Ext.blk (Ext.alloc (Ext.refl _) _) (heap_alloc_new _ _)
  let S : Nat → Prop := fun j => j = gr ∨ j = g ∨ j = w.heap.size + 1
  have hput : ∀ {A B : World} (o : Obj), Exts S A B → Exts S A (B.putObj (w.heap.size + 1) o) := fun {A B} o h =>
    ⟨h.os, h.tape, h.output, by simpa using h.size, fun k hk hn => (World.putObj_heap_other (fun e => hn (.inr (.inr e)))).trans (h.block k hk hn)⟩
  have hdown : ∀ {W : World}, Exts S W1 W → Exts (fun j => j = gr ∨ j = g) w W := fun {W} h =>
    Exts.mono (Exts.trans (S := S) hE1.exts h) (fun k hk hs => hs.elim .inl (fun h => h.elim .inr (fun h => by omega)))
  let J : Nat → World → Prop := fun k W => Exts S W1 W ∧ W.heap[gr]? = some (.cells (cs k) tr (0, 0)) ∧ W.heap[g]? = some (.cells #[.string (rst z k)] 9 (0, 0)) ∧ W.heap[w.heap.size + 1]? = some (.loop (rec .ready none)) ∧ W.heap[w.heap.size]? = some (.deferred (some []))
  let Jm : Nat → World → Prop := fun k W => Exts S W1 W ∧ W.heap[gr]? = some (.cells (cs (k + 1)) tr (0, 0)) ∧ W.heap[g]? = some (.cells #[.string (rst z k)] 9 (0, 0)) ∧ W.heap[w.heap.size + 1]? = some (.loop (rec .ready none)) ∧ W.heap[w.heap.size]? = some (.deferred (some []))
  refine ⟨w.heap.size + 1, [{ target := .collected w.heap.size, args := #[] }], W1, { target := .fn (.func 90) #[.pointer (some ⟨g, 0, none⟩)], args := #[.func (.yield (w.heap.size + 1)) #[] #[]] }, W1, 90,
    #[.func (.yield (w.heap.size + 1)) #[] #[], .pointer (some ⟨g, 0, none⟩)], W1, ?_, ?_, ?_, ?_, fun h => (by cases h), ?_⟩
  · rw [← hW1, hrec]; exact run_enterLoop_outer _ _ _ _ _
  · simp only [resolve, hg]
    simp [go_sem]
  · intro f' hf'; exact trivial
  · simp [invoke, go_sem]
  · refine (blocks1_in (n - 1) (w.heap.size + 1) g z J Jm hz (fun k W h => h.2.2.1) (fun k W h => h.2.2.1) ?_ ?_ W1 ?_).mono ?_
    · rintro k W ⟨h1, h2, h3, h4, h5⟩
      refine ⟨h1.setCell (.inl (.inr (.inl rfl))) _, (Below.heap_setCell W ⟨g, 0, none⟩ _ gr hne).trans h2, setCell_row h3 _, ?_, ?_⟩
      · exact (Below.heap_setCell W ⟨g, 0, none⟩ _ _ (by simp; omega)).trans h4
      · exact (Below.heap_setCell W ⟨g, 0, none⟩ _ _ (by simp; omega)).trans h5
    · rintro k W hk ⟨h1, h2, h3, h4, h5⟩
      have hlt : w.heap.size + 1 < W.heap.size := row_lt h4
      have hy := run_yield (P := Tryd.prog) (args := #[.string (bk z k)]) h4 (by rw [hrec]; simp)
      rw [hrec] at hy
      have ht : ∀ (t : Array Value) (v : Value), ((#[p] : Array Tmp).zip #[v]).foldl (fun tmps (x : Tmp × Value) => match x with | (t, a) => tmps.setIfInBounds t a) t = t.setIfInBounds p v := by intro t v; simp
      simp only [ht] at hy
      refine ⟨fn, _, assign, body, hy, roundIn_of_wpIn hfn (hassign _ (bk z k) W _ ?_)⟩
      refine ⟨_, run_beginRound h4 (by rw [hrec]), ?_⟩
      have hb1 : Exts S W1 (W.putObj (w.heap.size + 1) (.loop { rec .ready none with state := .busy })) := hput _ h1
      have hb2 : (W.putObj (w.heap.size + 1) (.loop { rec .ready none with state := .busy })).heap[gr]? = some (.cells (cs k) tr (0, 0)) := (World.putObj_heap_other (by omega)).trans h2
      have hb3 : (W.putObj (w.heap.size + 1) (.loop { rec .ready none with state := .busy })).heap[g]? = some (.cells #[.string (rst z k)] 9 (0, 0)) := (World.putObj_heap_other (by omega)).trans h3
      have hb4 : (W.putObj (w.heap.size + 1) (.loop { rec .ready none with state := .busy })).heap[w.heap.size + 1]? = some (.loop { rec .ready none with state := .busy }) := World.putObj_heap_same hlt
      have hb5 : (W.putObj (w.heap.size + 1) (.loop { rec .ready none with state := .busy })).heap[w.heap.size]? = some (.deferred (some [])) := (World.putObj_heap_other (by omega)).trans h5
      refine wpIn_mono (hbody _ k _ hk (hdown hb1) hb2) ?_
      rintro e a3 W3 ⟨rfl, hE3, hrow3⟩
      have hl3 := hE3.blk hb4 (by omega)
      have hend := run_endRound (P := Tryd.prog) none hl3
      refine ⟨_, _, hend, rfl, ?_⟩
      refine ⟨hput _ (Exts.trans hb1 (Exts.mono (T := S) hE3 (fun j _ h => Or.inl h))), (World.putObj_heap_other (by omega)).trans hrow3, (World.putObj_heap_other (by omega)).trans (hE3.blk hb3 (Ne.symm hne)), ?_, (World.putObj_heap_other (by omega)).trans (hE3.blk hb5 (by omega))⟩
      rw [hrec]
      exact World.putObj_heap_same (row_lt hl3)
    · exact ⟨Exts.refl _, Ext.blk hE1 hrow, Ext.blk hE1 hcell, hL1, hK1⟩
    · rintro e W2 ⟨⟨v, rfl⟩, h1, h2, h3, h4, h5⟩
      refine ⟨none, _, by have := run_endLoop (P := Tryd.prog) h4 (by rw [hrec]; simp); rw [hrec] at this; exact this, ?_⟩
      exact hdone w.heap.size _ (Nat.le_refl _) (hdown (hput _ h1)) ((World.putObj_heap_other (by omega)).trans h2) ((World.putObj_heap_other (by omega)).trans h5)
end Go.Proofs.YtimecmleaeimkaaDoor
