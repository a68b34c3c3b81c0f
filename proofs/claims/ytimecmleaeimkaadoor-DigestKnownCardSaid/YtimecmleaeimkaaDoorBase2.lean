/- A region of open order, once more: its calls and stores stand in a chain, whatever else it does only reads. One walk in the order of the text. -/
import Derived.Test.YtimecmleaeimkaaDoorBase
namespace Go.Proofs.YtimecmleaeimkaaDoor
open Go.RowKit
set_option linter.unusedVariables false

/-- What may change the world. -/
def busy (o : Oper) : Bool :=
  match o.op with
  | .move _ | .assign _ | .pick .. | .build .. | .load .. | .nilCheck _ | .binOp .. | .unOp .. | .convert .. | .slice .. | .fieldAddr .. | .field .. | .indexAddr .. | .index .. | .extract .. | .makeFunc .. | .makeInterface .. => false
  | .call c => (match c.callee with | .builtin .append => true | .builtin .copy => true | .builtin .clear => true | .builtin .delete => true | .builtin _ => false | _ => true)
  | _ => true
/-- Each busy operation waits for the busy one before it. -/
def busyChain (md : Region.Mode) (ops : Array Oper) : Bool :=
  (List.range ops.size).all fun j => (List.range j).all fun k =>
    match ops[j]?, ops[k]? with
    | some oj, some ok => !busy oj || !busy ok || oj.after.any fun e => Region.binds md e && decide (k ≤ e.on) && ((ops[e.on]?).map busy).getD false
    | _, _ => true

section
variable {P : Program} {ops : Array Oper} {md : Region.Mode} {C : World → Prop}

def busyUpon (P : Program) (C : World → Prop) (K : Value → World → Prop) : Result Next → Prop
  | .ok (.value u) w' => C w' ∧ K u w'
  | .ok .skip w' => C w' ∧ K undef w'
  | .ok (.enter f args) w' => Calls P f args w' (fun e w'' => ∃ u, e = .returned u ∧ C w'' ∧ K u w'')
  | _ => False
def busyAt (P : Program) (o : Oper) (a : Act) (C : World → Prop) (w : World) (K : Value → World → Prop) : Prop := busyUpon P C K ((execOp a.eval o).run P w)
def stillAt (P : Program) (o : Oper) (a : Act) (C : World → Prop) (v : Value) : Prop := ∀ w, C w → (execOp a.eval o).run P w = .ok (.value v) w

theorem busyUpon_mono {K K' : Value → World → Prop} (h : ∀ u w, C w → K u w → K' u w) {r : Result Next} (hh : busyUpon P C K r) : busyUpon P C K' r := by
  cases r with
  | halt x w' => exact hh
  | ok n w' =>
    cases n <;> simp only [busyUpon] at hh ⊢
    case value u => exact ⟨hh.1, h _ _ hh.1 hh.2⟩
    case skip => exact ⟨hh.1, h _ _ hh.1 hh.2⟩
    case enter f args => exact hh.mono fun e w'' ⟨u, he, hc, hk⟩ => ⟨u, he, hc, h _ _ hc hk⟩
theorem busyAt_mono {o : Oper} {a : Act} {w : World} {K K' : Value → World → Prop} (hh : busyAt P o a C w K) (h : ∀ u w, C w → K u w → K' u w) : busyAt P o a C w K' := by
  unfold busyAt at *; exact busyUpon_mono h hh
theorem busyUpon_total {K : Value → World → Prop} {r : Result Next} (hh : busyUpon P C K r) : ∃ u w', C w' ∧ K u w' := by
  cases r with
  | halt x w' => exact hh.elim
  | ok n w' =>
    cases n <;> simp only [busyUpon] at hh
    case value u => exact ⟨u, w', hh⟩
    case skip => exact ⟨undef, w', hh⟩
    case enter f args =>
      obtain ⟨e, w'', fr, ⟨u, _, h1, h2⟩, _⟩ := hh []
      exact ⟨u, w'', h1, h2⟩

def qOp (P : Program) (ops : Array Oper) (C : World → Prop) (i : Nat) (K : Act → World → Prop) (a : Act) (w : World) : Prop :=
  match ops[i]? with
  | none => K a w
  | some o => if Region.wanted o (yielded ops a.tmps) then (if busy o then busyAt P o a C w (fun u w' => K (a.put o.dst u) w') else ∃ v, stillAt P o a C v ∧ K (a.put o.dst v) w) else K (a.put o.dst undef) w

def wpAnyQ (P : Program) (md : Region.Mode) (ops : Array Oper) (C : World → Prop) (Q : Act → World → Prop) : Nat → Array Bool → Act → World → Prop
  | 0, listed, a, w => Region.ready md ops listed = [] ∧ Q a w
  | fuel + 1, listed, a, w =>
    (Region.ready md ops listed = [] → Q a w) ∧
    ∀ i ∈ Region.ready md ops listed, qOp P ops C i (wpAnyQ P md ops C Q fuel (listed.setIfInBounds i true)) a w

theorem qOp_mono {i : Nat} {a : Act} {w : World} (hC : C w) {K K' : Act → World → Prop} (h : ∀ a w, C w → K a w → K' a w) (hh : qOp P ops C i K a w) : qOp P ops C i K' a w := by
  unfold qOp at *
  split
  · rename_i ho; simp only [ho] at hh; exact h _ _ hC hh
  · rename_i o ho
    simp only [ho] at hh
    split
    · rename_i hw
      simp only [hw, if_true] at hh
      split
      · rename_i hb
        simp only [hb, if_true] at hh
        exact busyAt_mono hh (fun u w' hc hk => h _ _ hc hk)
      · rename_i hb
        simp only [hb] at hh
        obtain ⟨v, h1, h2⟩ := hh
        exact ⟨v, h1, h _ _ hC h2⟩
    · rename_i hw
      simp only [hw] at hh
      exact h _ _ hC hh

theorem wpOp_of_qOp {i : Nat} {a : Act} {K K' : Act → World → Prop} {Q' : Exit → Act → World → Prop} {w : World} (hC : C w)
    (h : ∀ a w', C w' → K a w' → K' a w') (hh : qOp P ops C i K a w) : wpOp P ops Q' i K' a w := by
  unfold qOp at hh
  unfold wpOp
  split
  · rename_i ho; simp only [ho] at hh; exact h _ _ hC hh
  · rename_i o ho
    simp only [ho] at hh
    split
    · rename_i hw
      simp only [hw, if_true] at hh
      left
      unfold Oper.wp
      split at hh
      · unfold busyAt at hh
        generalize (execOp a.eval o).run P w = r at *
        cases r with
        | halt x w' => exact hh.elim
        | ok n w' =>
          cases n <;> simp only [busyUpon] at hh <;> simp only [Oper.upon]
          case value u => exact h _ _ hh.1 hh.2
          case skip => exact h _ _ hh.1 hh.2
          case enter f args => exact hh.mono fun e w'' ⟨u, he, hc, hk⟩ => by subst he; exact h _ _ hc hk
      · obtain ⟨v, h1, h2⟩ := hh
        rw [h1 w hC]
        exact h _ _ hC h2
    · rename_i hw
      simp only [hw] at hh
      exact h _ _ hC hh

theorem wpAny_of_q {Q : Act → World → Prop} {Q' : Exit → Act → World → Prop} (hQ : ∀ a w, C w → Q a w → Q' .normal a w) : ∀ (fuel : Nat) (listed : Array Bool) (a : Act) (w : World), C w →
    wpAnyQ P md ops C Q fuel listed a w → wpAny P md ops Q' fuel listed a w
  | 0, _, _, _, hw, h => ⟨h.1, hQ _ _ hw h.2⟩
  | fuel + 1, _, _, _, hw, h => ⟨fun h0 => hQ _ _ hw (h.1 h0), fun i hi => wpOp_of_qOp hw (fun a' w' hw' => wpAny_of_q hQ fuel _ a' w' hw') (h.2 i hi)⟩

/-- An operation that only reads, or is not wanted: its one value. -/
def StillIn (P : Program) (ops : Array Oper) (C : World → Prop) (o : Oper) (v : Value) (a : Act) : Prop :=
  (Region.wanted o (yielded ops a.tmps) = true ∧ busy o = false ∧ stillAt P o a C v) ∨ (Region.wanted o (yielded ops a.tmps) = false ∧ v = undef)

theorem StillIn.of_same {o : Oper} {v : Value} {a a' : Act} (hy : StillIn P ops C o v a) (he : execOp a'.eval o = execOp a.eval o)
    (hw : Region.wanted o (yielded ops a'.tmps) = Region.wanted o (yielded ops a.tmps)) : StillIn P ops C o v a' := by
  unfold StillIn stillAt at *
  rw [he, hw]
  exact hy
theorem StillIn.unique {o : Oper} {v v' : Value} {a : Act} {w : World} (hC : C w) (h : StillIn P ops C o v a) (h' : StillIn P ops C o v' a) : v = v' := by
  rcases h with ⟨hw, hb, hv⟩ | ⟨hw, rfl⟩ <;> rcases h' with ⟨hw', hb', hv'⟩ | ⟨hw', rfl⟩
  · have := (hv w hC).symm.trans (hv' w hC)
    simpa using this
  · rw [hw] at hw'; cases hw'
  · rw [hw] at hw'; cases hw'
  · rfl
theorem StillIn.qOp {i : Nat} {o : Oper} {v : Value} {a : Act} {w : World} (hi : ops[i]? = some o) (hy : StillIn P ops C o v a) {K : Act → World → Prop} (h : K (a.put o.dst v) w) : qOp P ops C i K a w := by
  unfold Go.Proofs.YtimecmleaeimkaaDoor.qOp
  simp only [hi]
  rcases hy with ⟨hw, hb, hv⟩ | ⟨hw, rfl⟩
  · simp only [hw, if_true, hb, Bool.false_eq_true, if_false]; exact ⟨v, hv, h⟩
  · simp only [hw, Bool.false_eq_true, if_false]; exact h
theorem stillIn_of_qOp {i : Nat} {o : Oper} {a : Act} {w : World} {K : Act → World → Prop} (hi : ops[i]? = some o) (hb : busy o = false) (h : qOp P ops C i K a w) : ∃ v, StillIn P ops C o v a ∧ K (a.put o.dst v) w := by
  unfold Go.Proofs.YtimecmleaeimkaaDoor.qOp at h
  simp only [hi] at h
  by_cases hw : Region.wanted o (yielded ops a.tmps) = true
  · simp only [hw, if_true, hb, Bool.false_eq_true, if_false] at h
    obtain ⟨v, h1, h2⟩ := h
    exact ⟨v, .inl ⟨hw, hb, h1⟩, h2⟩
  · simp only [hw] at h
    exact ⟨undef, .inr ⟨by simpa using hw, rfl⟩, h⟩

theorem qOp_put {j : Nat} {oi oj : Oper} {v : Value} (hj : ops[j]? = some oj) (hap : oi.apart ops oj = true)
    (hsi : ∀ cs b, oi.op ≠ .select cs b) (hsj : ∀ cs b, oj.op ≠ .select cs b) {K : Act → World → Prop} {a : Act} {w : World}
    (hy : StillIn P ops C oi v a) (h : qOp P ops C j K (a.put oi.dst v) w) :
    qOp P ops C j (fun a' w' => StillIn P ops C oi v a' ∧ K (a'.put oi.dst v) w') a w := by
  obtain ⟨h1, h2, h3⟩ := Oper.apart_spec hap
  have keep : ∀ (a : Act), StillIn P ops C oi v a → ∀ u, StillIn P ops C oi v (a.put oj.dst u) := fun a hy u =>
    hy.of_same (execOp_put oi hsi a oj.dst u h3) (wanted_put oi a oj.dst u h3)
  unfold qOp at *
  simp only [hj] at *
  rw [wanted_put oj a oi.dst v h1] at h
  split
  · rename_i hw
    simp only [hw, if_true] at h
    split
    · rename_i hb
      simp only [hb, if_true] at h
      unfold busyAt at *
      rw [execOp_put oj hsj a oi.dst v h1] at h
      refine busyUpon_mono (fun u w' _ hk => ?_) h
      rw [Act.put_comm a v u h2] at hk
      exact ⟨keep a hy u, hk⟩
    · rename_i hb
      simp only [hb] at h
      obtain ⟨u, hu, hn⟩ := h
      refine ⟨u, fun w' hw' => ?_, keep a hy u, by rw [← Act.put_comm a v u h2]; exact hn⟩
      have := hu w' hw'
      rwa [execOp_put oj hsj a oi.dst v h1] at this
  · rename_i hw
    simp only [hw] at h
    exact ⟨keep a hy _, by rw [← Act.put_comm a v undef h2]; exact h⟩

theorem wpAnyQ_still {Q : Act → World → Prop} {i : Nat} {oi : Oper} {v : Value} (hi : ops[i]? = some oi) (hsel : ∀ (j : Nat) (o : Oper) cs b, ops[j]? = some o → o.op ≠ .select cs b) :
    ∀ (fuel : Nat) (listed : Array Bool) (a : Act) (w : World), C w →
      (∀ j oj, ops[j]? = some oj → j ≠ i → listed.getD j true = false → (∀ e ∈ oj.after, Region.binds md e = true → e.on ≠ i) → oi.apart ops oj = true) →
      i ∈ Region.ready md ops listed → StillIn P ops C oi v a →
      wpAnyQ P md ops C Q fuel (listed.setIfInBounds i true) (a.put oi.dst v) w → wpAnyQ P md ops C Q (fuel + 1) listed a w := by
  intro fuel
  induction fuel with
  | zero =>
    intro listed a w hC _ hr hy H
    refine ⟨fun h => (by rw [h] at hr; cases hr), fun j hj => ?_⟩
    by_cases hji : j = i
    · subst hji; exact hy.qOp hi H
    · have := ready_mono hj hji
      rw [H.1] at this
      cases this
  | succ fuel ih =>
    intro listed a w hC hfree hr hy H
    refine ⟨fun h => (by rw [h] at hr; cases hr), fun j hj => ?_⟩
    by_cases hji : j = i
    · subst hji; exact hy.qOp hi H
    · have h1 := H.2 j (ready_mono hj hji)
      obtain ⟨hjun, oj, hoj, hall⟩ := mem_ready.1 hj
      have hnot : ∀ e ∈ oj.after, Region.binds md e = true → e.on ≠ i := fun e he hb heq => by
        have h1 := hall e he hb
        have h0 := (mem_ready.1 hr).1
        rw [heq] at h1
        rcases Nat.lt_or_ge i listed.size with h' | h'
        · simp [h'] at h0 h1; rw [h0] at h1; cases h1
        · simp [Array.getElem?_eq_none h'] at h1
      have h2 := qOp_put hoj (hfree j oj hoj hji hjun hnot) (fun cs b => hsel i oi cs b hi) (fun cs b => hsel j oj cs b hoj) hy h1
      have hfree' : ∀ k ok, ops[k]? = some ok → k ≠ i → (listed.setIfInBounds j true).getD k true = false →
          (∀ e ∈ ok.after, Region.binds md e = true → e.on ≠ i) → oi.apart ops ok = true := fun k ok hk hki hun hno => by
        refine hfree k ok hk hki ?_ hno
        by_cases hjk : j = k
        · subst hjk; exact hjun
        · rw [getD_set_ne true hjk] at hun; exact hun
      refine qOp_mono hC (fun a' w' hC' h3 => ih (listed.setIfInBounds j true) a' w' hC' hfree' (ready_mono hr (Ne.symm hji)) h3.1 ?_) h2
      rw [Array.setIfInBounds_comm _ _ hji]
      exact h3.2

theorem wpAnyQ_busy {Q : Act → World → Prop} {i : Nat} {oi : Oper} (hi : ops[i]? = some oi) (hbi : busy oi = true) (hsel : ∀ (j : Nat) (o : Oper) cs b, ops[j]? = some o → o.op ≠ .select cs b) :
    ∀ (fuel : Nat) (listed : Array Bool) (a : Act) (w : World), C w →
      (∀ j oj, ops[j]? = some oj → j ≠ i → listed.getD j true = false → (∀ e ∈ oj.after, Region.binds md e = true → e.on ≠ i) → oi.apart ops oj = true) →
      (∀ j oj, ops[j]? = some oj → j ≠ i → busy oj = true → listed.getD j true = false → ∃ e ∈ oj.after, Region.binds md e = true ∧ listed.getD e.on false = false ∧ ((ops[e.on]?).map busy).getD false = true) →
      i ∈ Region.ready md ops listed → Region.wanted oi (yielded ops a.tmps) = true →
      busyAt P oi a C w (fun u w' => wpAnyQ P md ops C Q fuel (listed.setIfInBounds i true) (a.put oi.dst u) w') → wpAnyQ P md ops C Q (fuel + 1) listed a w := by
  intro fuel
  induction fuel with
  | zero =>
    intro listed a w hC _ hch hr hy H
    refine ⟨fun h => (by rw [h] at hr; cases hr), fun j hj => ?_⟩
    by_cases hji : j = i
    · subst hji; unfold qOp; simp only [hi, hy, hbi, if_true]; exact H
    · obtain ⟨u, w', _, H⟩ := busyUpon_total H
      have := ready_mono hj hji
      rw [H.1] at this
      cases this
  | succ fuel ih =>
    intro listed a w hC hfree hch hr hy H
    refine ⟨fun h => (by rw [h] at hr; cases hr), fun j hj => ?_⟩
    by_cases hji : j = i
    · subst hji; unfold qOp; simp only [hi, hy, hbi, if_true]; exact H
    · obtain ⟨hjun, oj, hoj, hall⟩ := mem_ready.1 hj
      have hbj : busy oj = false := by
        by_cases hb : busy oj = true
        · obtain ⟨e, he, hbd, hun, _⟩ := hch j oj hoj hji hb hjun
          have := hall e he hbd
          rw [hun] at this; cases this
        · simpa using hb
      have hnot : ∀ e ∈ oj.after, Region.binds md e = true → e.on ≠ i := fun e he hb heq => by
        have h1 := hall e he hb
        have h0 := (mem_ready.1 hr).1
        rw [heq] at h1
        rcases Nat.lt_or_ge i listed.size with h' | h'
        · simp [h'] at h0 h1; rw [h0] at h1; cases h1
        · simp [Array.getElem?_eq_none h'] at h1
      obtain ⟨p1, p2, p3⟩ := Oper.apart_spec (hfree j oj hoj hji hjun hnot)
      have hsi : ∀ cs b, oi.op ≠ .select cs b := fun cs b => hsel i oi cs b hi
      have hsj : ∀ cs b, oj.op ≠ .select cs b := fun cs b => hsel j oj cs b hoj
      have down : ∀ u v, StillIn P ops C oj v (a.put oi.dst u) → StillIn P ops C oj v a := fun u v h =>
        h.of_same (execOp_put oj hsj a oi.dst u p1).symm (wanted_put oj a oi.dst u p1).symm
      obtain ⟨v, hv⟩ : ∃ v, StillIn P ops C oj v a := by
        obtain ⟨u, w', _, H'⟩ := busyUpon_total H
        obtain ⟨v, hv, _⟩ := stillIn_of_qOp hoj hbj (H'.2 j (ready_mono hj hji))
        exact ⟨v, down u v hv⟩
      refine hv.qOp hoj ?_
      have hfree' : ∀ k ok, ops[k]? = some ok → k ≠ i → (listed.setIfInBounds j true).getD k true = false →
          (∀ e ∈ ok.after, Region.binds md e = true → e.on ≠ i) → oi.apart ops ok = true := fun k ok hk hki hun hno => by
        refine hfree k ok hk hki ?_ hno
        by_cases hjk : j = k
        · subst hjk; exact hjun
        · rw [getD_set_ne true hjk] at hun; exact hun
      have hch' : ∀ k ok, ops[k]? = some ok → k ≠ i → busy ok = true → (listed.setIfInBounds j true).getD k true = false →
          ∃ e ∈ ok.after, Region.binds md e = true ∧ (listed.setIfInBounds j true).getD e.on false = false ∧ ((ops[e.on]?).map busy).getD false = true := fun k ok hk hki hb hun => by
        have hjk : j ≠ k := fun h => by subst h; rw [hoj] at hk; cases hk; rw [hbj] at hb; cases hb
        rw [getD_set_ne true hjk] at hun
        obtain ⟨e, he, hbd, hu, hbe⟩ := hch k ok hk hki hb hun
        refine ⟨e, he, hbd, ?_, hbe⟩
        have hje : j ≠ e.on := fun h => by rw [← h, hoj] at hbe; simp [hbj] at hbe
        rw [getD_set_ne false hje]; exact hu
      refine ih (listed.setIfInBounds j true) (a.put oj.dst v) w hC hfree' hch' (ready_mono hr (Ne.symm hji)) (by rw [wanted_put oi a oj.dst v p3]; exact hy) ?_
      unfold busyAt at *
      rw [execOp_put oi hsi a oj.dst v p3]
      refine busyUpon_mono (fun u w' hC' hk => ?_) H
      obtain ⟨v', hv', hk'⟩ := stillIn_of_qOp hoj hbj (hk.2 j (ready_mono hj hji))
      obtain rfl := StillIn.unique hC' (down u v' hv') hv
      rw [Array.setIfInBounds_comm _ _ hji, ← Act.put_comm a u v' p2]
      exact hk'

def wpSeq (P : Program) (ops : Array Oper) (C : World → Prop) (Q : Act → World → Prop) : List Oper → Act → World → Prop
  | [], a, w => Q a w
  | o :: rest, a, w => if Region.wanted o (yielded ops a.tmps) then (if busy o then busyAt P o a C w (fun u w' => wpSeq P ops C Q rest (a.put o.dst u) w') else ∃ v, stillAt P o a C v ∧ wpSeq P ops C Q rest (a.put o.dst v) w) else wpSeq P ops C Q rest (a.put o.dst undef) w

theorem wpAnyQ_lex {Q : Act → World → Prop} (hs : Region.noSelect ops = true) (hch : busyChain md ops = true) : ∀ (l : List Oper) (k : Nat) (listed : Array Bool) (a : Act) (w : World), C w → (∀ j, l[j]? = ops[k + j]?) →
    listed.size = ops.size → (∀ j, k ≤ j → listed.getD j false = false) → (∀ j, j < k → listed.getD j true = true) →
    Region.lexFrom md ops l.length k listed = true → wpSeq P ops C Q l a w → wpAnyQ P md ops C Q l.length listed a w
  | [], _, _, _, _, _, _, _, _, _, hB, h => ⟨by simpa [Region.lexFrom] using hB, h⟩
  | o :: l, k, listed, a, w, hC, hl, hsz, hU, hL, hB, h => by
    have h0 : ops[k]? = some o := by simpa using (hl 0).symm
    have hk : k < ops.size := (Array.getElem?_eq_some_iff.1 h0).1
    simp only [List.length_cons, Region.lexFrom, Bool.and_eq_true] at hB
    obtain ⟨⟨hr, hf⟩, hB'⟩ := hB
    have hsel := Region.noSelect_spec hs
    have next : ∀ a' w', C w' → wpSeq P ops C Q l a' w' → wpAnyQ P md ops C Q l.length (listed.setIfInBounds k true) a' w' := fun a' w' hC' h' =>
      wpAnyQ_lex hs hch l (k + 1) _ _ w' hC' (fun j => by have := hl (j + 1); simpa [Nat.add_assoc, Nat.add_comm 1 j] using this) (by simp [hsz])
        (fun j hj => by rw [getD_set_ne false (by omega)]; exact hU j (by omega))
        (fun j hj => by
          by_cases hjk : k = j
          · subst hjk; simp
          · rw [getD_set_ne true hjk]; exact hL j (by omega)) hB' h'
    by_cases hw : Region.wanted o (yielded ops a.tmps) = true
    · by_cases hb : busy o = true
      · unfold wpSeq at h
        rw [if_pos hw, if_pos hb] at h
        refine wpAnyQ_busy h0 hb hsel l.length listed a w hC (Region.free_spec h0 hf) (fun j oj hj hjk hbj hun => ?_) (by simpa using hr) hw (busyAt_mono h (fun u w' hC' hk => next _ _ hC' hk))
        have hkj : k < j := by
          rcases Nat.lt_or_ge j k with h' | h'
          · rw [hL j h'] at hun; cases hun
          · omega
        have hjs : j < ops.size := (Array.getElem?_eq_some_iff.1 hj).1
        have h1 := List.all_eq_true.1 (List.all_eq_true.1 hch j (List.mem_range.2 hjs)) k (List.mem_range.2 hkj)
        simp only [hj, h0, hb, hbj, Bool.not_true, Bool.false_or] at h1
        obtain ⟨e, he, h2⟩ := Array.any_eq_true'.1 h1
        simp only [Bool.and_eq_true, decide_eq_true_eq] at h2
        exact ⟨e, he, h2.1.1, hU _ h2.1.2, h2.2⟩
      · have hb' : busy o = false := by simpa using hb
        have hst : qOp P ops C k (wpSeq P ops C Q l) a w := by unfold qOp; unfold wpSeq at h; simp only [h0]; exact h
        obtain ⟨v, hy, hK⟩ := stillIn_of_qOp h0 hb' hst
        exact wpAnyQ_still h0 hsel l.length listed a w hC (Region.free_spec h0 hf) (by simpa using hr) hy (next _ _ hC hK)
    · unfold wpSeq at h
      rw [if_neg hw] at h
      exact wpAnyQ_still h0 hsel l.length listed a w hC (Region.free_spec h0 hf) (by simpa using hr) (.inr ⟨by simpa using hw, rfl⟩) (next _ _ hC h)

/-- The region's law. -/
theorem wp_region_seq {id : Nat} {Q : Exit → Act → World → Prop} {a : Act} {w : World} {l : List Oper} (C : World → Prop) (hm : P.follows .mixedOrders = true) (hB : Region.lexB .any l.toArray = true)
    (hch : busyChain .any l.toArray = true) (hC : C w.drew) (h : wpSeq P l.toArray C (fun a' w' => C w' → Q .normal a' w') l a w.drew) : (Code.region id l.toArray true).wp P Q a w := by
  simp only [Region.lexB, Bool.and_eq_true] at hB
  refine wp_region_any hm (wpAny_of_q (Q := fun a' w' => C w' → Q .normal a' w') (fun _ w' hw' h => h hw') _ _ _ _ hC ?_)
  have := wpAnyQ_lex (C := C) (md := .any) hB.1 hch l 0 (Array.replicate l.toArray.size false) a w.drew hC (by simp) (by simp) (fun j _ => by simp [Array.getElem?_replicate]; split <;> rfl) (fun j hj => by omega) (by simpa using hB.2) h
  simpa using this

theorem wpSeq_nil {Q : Act → World → Prop} {a : Act} {w : World} (h : Q a w) : wpSeq P ops C Q [] a w := h
theorem wpSeq_still {Q : Act → World → Prop} {a : Act} {w : World} {o : Oper} {rest : List Oper} {v : Value} (hw : Region.wanted o (yielded ops a.tmps) = true) (hb : busy o = false)
    (h : ∀ w, C w → (execOp a.eval o).run P w = .ok (.value v) w) (k : wpSeq P ops C Q rest (a.put o.dst v) w) : wpSeq P ops C Q (o :: rest) a w := by
  unfold wpSeq
  rw [if_pos hw, if_neg (by rw [hb]; decide)]
  exact ⟨v, h, k⟩
theorem wpSeq_busy {Q : Act → World → Prop} {a : Act} {w : World} {o : Oper} {rest : List Oper} (hw : Region.wanted o (yielded ops a.tmps) = true) (hb : busy o = true)
    (h : busyAt P o a C w (fun u w' => wpSeq P ops C Q rest (a.put o.dst u) w')) : wpSeq P ops C Q (o :: rest) a w := by
  unfold wpSeq
  rw [if_pos hw, if_pos hb]
  exact h
theorem wpSeq_skip {Q : Act → World → Prop} {a : Act} {w : World} {o : Oper} {rest : List Oper} (hw : Region.wanted o (yielded ops a.tmps) = false)
    (k : wpSeq P ops C Q rest (a.put o.dst undef) w) : wpSeq P ops C Q (o :: rest) a w := by
  unfold wpSeq
  rw [if_neg (by rw [hw]; decide)]
  exact k
/-- A call in such a region, out of its contract. -/
theorem Ret.busy {f : FuncId} {args : Array Value} {w : World} {R : Ending → World → Prop} {K : Value → World → Prop} (h : Calls P f args w R)
    (hk : ∀ e w', R e w' → ∃ u, e = .returned u ∧ C w' ∧ K u w') : Calls P f args w (fun e w' => ∃ u, e = .returned u ∧ C w' ∧ K u w') := h.mono hk
end
attribute [go_sem] busyAt busyUpon
/-- A store of a whole row in such a region. -/
theorem busy_store_row {P : Program} {o : Oper} {a : Act} {C : World → Prop} {w : World} {K : Value → World → Prop} (ty : TypeId) (x y : Operand) (ho : o.op = .store ty x y)
    (g : Nat) (cells : Array Value) (hx : a.eval x = .pointer (some ⟨g, 0, none⟩)) (hy : a.eval y = .agg cells)
    (t : TypeId) (old : Array Value) (hg : w.heap[g]? = some (.cells old t (0, 0))) (hi : (P.info? ty).map (·.size) = some cells.size)
    (hold : old.size = cells.size) (h1 : cells.all (·.oneCell') = true) (hC : C (w.setRow g cells)) (h : K undef (w.setRow g cells)) : busyAt P o a C w K := by
  unfold busyAt execOp
  simp only [ho, hx, hy, Instr.storeAt, Instr.sureAddr, Sem.run_bind, Sem.run_pure, Result.andThen_ok, run_storeVar_row w g t ty old cells hg hi hold h1]
  exact ⟨hC, h⟩
theorem Ext.setRow {a b : World} (h : Ext a b) {g : Nat} (hg : a.heap.size ≤ g) (cs : Array Value) : Ext a (b.setRow g cs) :=
  ⟨h.os, h.tape, h.output, by simpa [World.setRow] using h.size, fun k hk => (setRow_other b g k cs (by omega)).trans (h.block k hk)⟩
/-- The world that a walk has come to, under one name. -/
theorem wp_name {P : Program} {c : Code} {Q : Exit → Act → World → Prop} {a : Act} {w : World} (h : ∀ W, Hd (W = w) → c.wp P Q a W) : c.wp P Q a w := h w ⟨rfl⟩
end Go.Proofs.YtimecmleaeimkaaDoor
