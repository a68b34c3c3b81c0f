/- Digests in progress compared; a row read in a region of open order. -/
import Derived.Test.YtimecmleaeimkaaDoorDigBn
namespace Go.Proofs.YtimecmleaeimkaaDoor
open Go.RowKit
set_option linter.unusedVariables false
theorem eq_dg (d d' : Dg) (w : World) : (binOp .eql 41 d.v d'.v).run Tryd.prog w = .ok (.bool ([d.x.a, d.x.b, d.x.c, d.x.d] == [d'.x.a, d'.x.b, d'.x.c, d'.x.d] && (d.l == d'.l && d.r.toList == d'.r.toList))) w := by
  obtain ⟨⟨a, b, c, e⟩, l, r⟩ := d
  obtain ⟨⟨a', b', c', e'⟩, l', r'⟩ := d'
  unfold Dg.v dgV dgL
  have h4 : ∀ w, (Op.equalIn 9999 39 (.agg #[.int .i64 a, .int .i64 b, .int .i64 c, .int .i64 e]) (.agg #[.int .i64 a', .int .i64 b', .int .i64 c', .int .i64 e'])).run Tryd.prog w = .ok ([a, b, c, e] == [a', b', c', e']) w := fun w =>
    run_equalIn_ints w 9997 .i64 39 3 4 Tryd.underlying39 Tryd.underlying3 (fun _ => by kernel_rfl) [a, b, c, e] [a', b', c', e'] rfl rfl
  rw [run_eql_struct]
  go_simp
  by_cases h1 : a = a' <;> by_cases h2 : b = b' <;> by_cases h3 : c = c' <;> by_cases h4 : e = e' <;> by_cases h5 : l = l' <;> by_cases h6 : r.toList = r'.toList <;> simp [*]
theorem neq_dg (d : Dg) (w : World) : (binOp .neq 41 d.v d.v).run Tryd.prog w = .ok (.bool false) w := by
  have h := eq_dg d d w
  unfold Dg.v dgV at h ⊢
  rw [run_eql_struct] at h
  rw [run_neq_struct]
  generalize (Op.equalIn 10000 _ _ _).run Tryd.prog w = r at *
  cases r with
  | ok b w' =>
    simp only [Result.andThen_ok] at h ⊢
    injection h with h1 h2
    injection h1 with h1
    subst h1 h2
    simp
  | halt x w' => simp [Result.andThen] at h
theorem still_load_row {P : Program} {o : Oper} {a : Act} {C : World → Prop} (ty : TypeId) (x : Operand) (ho : o.op = .load ty x)
    (g : Nat) (hx : a.eval x = .pointer (some ⟨g, 0, none⟩)) (t : TypeId) (cs : Array Value) (fr : Nat × Nat) (d : TypeDesc) (hg : ∀ w, C w → w.heap[g]? = some (.cells cs t fr))
    (hu : P.underlying ty = some d) (hd : (match d with | .struct _ | .array _ _ => true | _ => false) = true) (hi : (P.info? ty).map (·.size) = some cs.size) :
    ∀ w, C w → (execOp a.eval o).run P w = .ok (.value (.agg cs)) w := fun w hw => by
  unfold execOp
  simp only [ho, hx, Instr.loadAt, Instr.sureAddr, Sem.run_bind, Sem.run_pure, Result.andThen_ok, run_loadVar_row w g t ty cs fr d (hg w hw) hu hd hi]
theorem done_row (d : Dg) : ∃ g, (doneS d).1 = rowF g := by
  unfold doneS
  split
  · exact ⟨zF, rowF_zero.symm⟩
  · exact ⟨_, trow_rowF _⟩
theorem more_rest (d : Dg) (s : ByteArray) : (moreS d s).1.r.size ≤ 100 := by
  unfold moreS
  split
  · show (0 : Nat) ≤ 100; omega
  · split
    · show (0 : Nat) ≤ 100; omega
    · show (tl (d.r ++ s)).size ≤ 100; rw [tl_size]; omega
theorem bend_rest (k i : Nat) (n : Int) (d : Dg) (h : d.r.size ≤ 100) : (bendS k i n d).r.size ≤ 100 := by
  unfold bendS
  split
  · exact h
  · split
    · exact h
    · split
      · show (repS _ _).size ≤ 100
        rw [repS_size]
        show manyX n * 1 ≤ 100
        unfold manyX; omega
      · exact h
theorem eql_dg (d : Dg) (w : World) : (binOp .eql 41 d.v d.v).run Tryd.prog w = .ok (.bool true) w := by
  rw [eq_dg]; simp
end Go.Proofs.YtimecmleaeimkaaDoor
