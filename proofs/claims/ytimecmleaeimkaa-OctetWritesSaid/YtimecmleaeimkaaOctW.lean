/- The law OctetWrites: its walk. -/
import Derived.Test.YtimecmleaeimkaaOct9
namespace Go.Proofs.Ytimecmleaeimkaa
open Go.RowKit
set_option linter.unusedVariables false

def sel4 (k : Nat) (a b c d : Int) : Int := match k with | 0 => a | 1 => b | 2 => c | _ => d
def sel3 (k : Nat) (a b c : Int) : Int := match k with | 0 => a | 1 => b | _ => c
def selS (k : Nat) (a b : ByteArray) : ByteArray := match k with | 0 => a | _ => b
theorem ix4 (a b c d : Int) (k : Nat) (hk : k < 4) (w : World) : (Instr.index 27 (.agg #[.int .i64 a, .int .i64 b, .int .i64 c, .int .i64 d]) (.int .i64 k)).run Try.prog w = .ok (.int .i64 (sel4 k a b c d)) w := by
  rcases (show k = 0 ∨ k = 1 ∨ k = 2 ∨ k = 3 by omega) with rfl | rfl | rfl | rfl <;> kernel_rfl
theorem ix3 (a b c : Int) (k : Nat) (hk : k < 3) (w : World) : (Instr.index 34 (.agg #[.int .i64 a, .int .i64 b, .int .i64 c]) (.int .i64 k)).run Try.prog w = .ok (.int .i64 (sel3 k a b c)) w := by
  rcases (show k = 0 ∨ k = 1 ∨ k = 2 by omega) with rfl | rfl | rfl <;> kernel_rfl
theorem ixS (a b : ByteArray) (k : Nat) (hk : k < 2) (w : World) : (Instr.index 33 (.agg #[.string a, .string b]) (.int .i64 k)).run Try.prog w = .ok (.string (selS k a b)) w := by
  rcases (show k = 0 ∨ k = 1 by omega) with rfl | rfl <;> kernel_rfl

set_option maxHeartbeats 4000000 in
set_option maxRecDepth 100000 in
theorem OctetWrites_c (S L : ByteArray) (T n k : Int) (hS : S.size ≤ 140737488351232) (hL : L.size ≤ 140737488351232) (hT0 : 0 ≤ T) (hT1 : T ≤ 65535) (w : World) :
    Calls Try.prog 3 #[.agg #[.string S, .string L, .int .u16 T], .int .i64 n, .int .i64 k] w (Ret w (.bool true)) := by
  obtain ⟨W0, hW0⟩ : ∃ W0, W0 = w.alloc (.cells #[.string S, .string L, .int .u16 T] 24) := ⟨_, rfl⟩
  have hE0 : Ext w W0 := by rw [hW0]; exact Ext.alloc (Ext.refl _) _
  have hcell : ∀ w', Ext W0 w' → w'.cell? ⟨w.heap.size, 0, none⟩ = some (.string S) ∧ w'.cell? ⟨w.heap.size, 1, none⟩ = some (.string L) ∧ w'.cell? ⟨w.heap.size, 2, none⟩ = some (.int .u16 T) :=
    fun w' h' => by rw [hW0] at h'; exact ⟨Ext.cell h' (by simp), Ext.cell h' (by simp), Ext.cell h' (by simp)⟩
  have hH := headS_size L
  have HL := longS_size S L T hT0
  obtain ⟨hl, ehl⟩ : ∃ x, headS L = x := ⟨_, rfl⟩
  obtain ⟨ll, ell⟩ : ∃ x, longS S L T = x := ⟨_, rfl⟩
  have hlong : ∀ w', Calls Try.prog 14 #[.agg #[.string S, .string L, .int .u16 T]] w' (Ret w' (.string ll)) := fun w' => by
    have h := Long_c S L T hS hL hT0 hT1 w'
    rwa [ell] at h
  have ehl' : L.extract 0 (min (L.size : Int) 300).toNat = hl := ehl
  rw [ehl] at hH
  rw [ell] at HL
  clear ehl ell
  have ifo0 : ∀ w, (Instr.index 29 (.agg #[.func (.func 6) #[] #[], .func (.func 7) #[] #[], .func (.func 8) #[] #[], .func (.func 9) #[] #[]]) (.int .i64 0)).run Try.prog w = .ok (.func (.func 6) #[] #[]) w := fun _ => by kernel_rfl
  have ifo1 : ∀ w, (Instr.index 29 (.agg #[.func (.func 6) #[] #[], .func (.func 7) #[] #[], .func (.func 8) #[] #[], .func (.func 9) #[] #[]]) (.int .i64 1)).run Try.prog w = .ok (.func (.func 7) #[] #[]) w := fun _ => by kernel_rfl
  have ifo2 : ∀ w, (Instr.index 29 (.agg #[.func (.func 6) #[] #[], .func (.func 7) #[] #[], .func (.func 8) #[] #[], .func (.func 9) #[] #[]]) (.int .i64 2)).run Try.prog w = .ok (.func (.func 8) #[] #[]) w := fun _ => by kernel_rfl
  have ifo3 : ∀ w, (Instr.index 29 (.agg #[.func (.func 6) #[] #[], .func (.func 7) #[] #[], .func (.func 8) #[] #[], .func (.func 9) #[] #[]]) (.int .i64 3)).run Try.prog w = .ok (.func (.func 9) #[] #[]) w := fun _ => by kernel_rfl
  have ifv0 : ∀ w, (Instr.index 29 (.agg #[.func (.func 10) #[] #[], .func (.func 11) #[] #[], .func (.func 12) #[] #[], .func (.func 13) #[] #[]]) (.int .i64 0)).run Try.prog w = .ok (.func (.func 10) #[] #[]) w := fun _ => by kernel_rfl
  have ifv1 : ∀ w, (Instr.index 29 (.agg #[.func (.func 10) #[] #[], .func (.func 11) #[] #[], .func (.func 12) #[] #[], .func (.func 13) #[] #[]]) (.int .i64 1)).run Try.prog w = .ok (.func (.func 11) #[] #[]) w := fun _ => by kernel_rfl
  have ifv2 : ∀ w, (Instr.index 29 (.agg #[.func (.func 10) #[] #[], .func (.func 11) #[] #[], .func (.func 12) #[] #[], .func (.func 13) #[] #[]]) (.int .i64 2)).run Try.prog w = .ok (.func (.func 12) #[] #[]) w := fun _ => by kernel_rfl
  have ifv3 : ∀ w, (Instr.index 29 (.agg #[.func (.func 10) #[] #[], .func (.func 11) #[] #[], .func (.func 12) #[] #[], .func (.func 13) #[] #[]]) (.int .i64 3)).run Try.prog w = .ok (.func (.func 13) #[] #[]) w := fun _ => by kernel_rfl
  go_enter Try.func3, Try.ntmps3
  go_wp2_with (go_at_call 5; rw [← hW0]; refine (works_c _).mono ?_; rintro e w1 ⟨rfl, hb1⟩)
  clear hW0
  go_loopw [37] (fun i wr => ∃ j : Nat, j ≤ 4 ∧ i = .int .i64 j ∧ Ext W0 wr) (fun i _ => 4 - (intOf i).toNat)
  case atStart => exact ⟨0, by omega, rfl, hb1⟩
  case round =>
    obtain ⟨j, hj, rfl, hE1⟩ := hrel
    by_cases hlt : j < 4
    · have hix := fun a b c d => ix4 a b c d j hlt
      have hjd : decide ((j : Int) < 4) = true := decide_eq_true (by omega)
      go_wp2_with fail
      go_loopw [41] (fun i wr => ∃ j : Nat, j ≤ 4 ∧ i = .int .i64 j ∧ Ext W0 wr) (fun i _ => 4 - (intOf i).toNat)
      case atStart => exact ⟨0, by omega, rfl, hE1⟩
      case round =>
        obtain ⟨q, hq, rfl, hE2⟩ := hrel
        by_cases hqt : q < 4
        · rcases (show q = 0 ∨ q = 1 ∨ q = 2 ∨ q = 3 by omega) with rfl | rfl | rfl | rfl
          all_goals
            go_wp2_with (first | (go_at_call 6; refine (PutU8_c _ _).mono ?_; rintro e w3 ⟨rfl, hb3⟩) | (go_at_call 7; refine (PutU16_c _ _).mono ?_; rintro e w3 ⟨rfl, hb3⟩) | (go_at_call 8; refine (PutU32_c _ _).mono ?_; rintro e w3 ⟨rfl, hb3⟩) | (go_at_call 9; refine (PutS32_c _ _).mono ?_; rintro e w3 ⟨rfl, hb3⟩) | (go_at_call 10; refine (rPutU8_c _ _).mono ?_; rintro e w4 ⟨rfl, hb4⟩) | (go_at_call 11; refine (rPutU16_c _ _).mono ?_; rintro e w4 ⟨rfl, hb4⟩) | (go_at_call 12; refine (rPutU32_c _ _).mono ?_; rintro e w4 ⟨rfl, hb4⟩) | (go_at_call 13; refine (rPutS32_c _ _).mono ?_; rintro e w4 ⟨rfl, hb4⟩))
            go_roundw
            case rel => first | exact ⟨1, by omega, rfl, (by repeat (first | exact Ext.refl _ | assumption | apply Ext.alloc | apply Ext.drew | apply Ext.drewN | apply Ext.bytes | apply Ext.iter | refine Ext.setCell ?_ (by simp; omega) _ | refine Ext.trans ?_ (by assumption)))⟩ | exact ⟨2, by omega, rfl, (by repeat (first | exact Ext.refl _ | assumption | apply Ext.alloc | apply Ext.drew | apply Ext.drewN | apply Ext.bytes | apply Ext.iter | refine Ext.setCell ?_ (by simp; omega) _ | refine Ext.trans ?_ (by assumption)))⟩ | exact ⟨3, by omega, rfl, (by repeat (first | exact Ext.refl _ | assumption | apply Ext.alloc | apply Ext.drew | apply Ext.drewN | apply Ext.bytes | apply Ext.iter | refine Ext.setCell ?_ (by simp; omega) _ | refine Ext.trans ?_ (by assumption)))⟩ | exact ⟨4, by omega, rfl, (by repeat (first | exact Ext.refl _ | assumption | apply Ext.alloc | apply Ext.drew | apply Ext.drewN | apply Ext.bytes | apply Ext.iter | refine Ext.setCell ?_ (by simp; omega) _ | refine Ext.trans ?_ (by assumption)))⟩
            case measure => simp [intOf]
        · go_wp2_with fail
          go_roundw
          case rel => exact ⟨j + 1, by omega, by go_num, hE2⟩
          case measure => simp [intOf]; omega
    · go_wp2_with fail
      have hk0 := fun w' h' => (hcell w' (Ext.trans hE1 h')).1
      have hk1 := fun w' h' => (hcell w' (Ext.trans hE1 h')).2.1
      have hk2 := fun w' h' => (hcell w' (Ext.trans hE1 h')).2.2
      have hn0 : 0 ≤ min (L.size : Int) 300 := by omega
      have hn1 : min (L.size : Int) 300 ≤ L.size := by omega
      (refine wp_region_free (Ext wr) (by kernel_rfl) (by kernel_rfl) (by first | exact (by repeat (first | exact Ext.refl _ | assumption | apply Ext.alloc | apply Ext.drew | apply Ext.drewN | apply Ext.bytes | apply Ext.iter | refine Ext.setCell ?_ (by simp; omega) _ | refine Ext.trans ?_ (by assumption))) | skip) ?_
       repeat (first
         | (refine wpFree_skip rfl ?_; (try simp only [Act.put, List.setIfInBounds_toArray, List.set_cons_zero, List.set_cons_succ]))
         | (apply wpFree_step; exact rfl; (intro w' hw'; go_simp; first | exact rfl | exact ⟨hw', rfl⟩ | exact ⟨(by repeat (first | exact Ext.refl _ | assumption | apply Ext.alloc | apply Ext.drew | apply Ext.drewN | apply Ext.bytes | apply Ext.iter | refine Ext.setCell ?_ (by simp; omega) _ | refine Ext.trans ?_ (by assumption))), rfl⟩ | exact Ret.free (hlong _) hw'); (try simp only [Act.put, List.setIfInBounds_toArray, List.set_cons_zero, List.set_cons_succ])))
       refine wpFree_nil (fun wq hq => ?_))
      clear hk0 hk1 hk2 hn0 hn1
      go_wp2_with fail
      go_loopw [79] (fun i wr => ∃ j : Nat, j ≤ 2 ∧ i = .int .i64 j ∧ Ext W0 wr) (fun i _ => 2 - (intOf i).toNat)
      case atStart => exact ⟨0, by omega, rfl, (by repeat (first | exact Ext.refl _ | assumption | apply Ext.alloc | apply Ext.drew | apply Ext.drewN | apply Ext.bytes | apply Ext.iter | refine Ext.setCell ?_ (by simp; omega) _ | refine Ext.trans ?_ (by assumption)))⟩
      case round =>
        obtain ⟨q, hq, rfl, hE2⟩ := hrel
        by_cases hqt : q < 2
        · have hixs := fun a b => ixS a b q hqt
          have hjd : decide ((q : Int) < 2) = true := decide_eq_true (by omega)
          have hsz : (selS q ll hl).size ≤ 66000 := by unfold selS; split <;> omega
          obtain ⟨t, et⟩ : ∃ t, selS q ll hl = t := ⟨_, rfl⟩
          rw [et] at hsz
          go_wp2_with fail
          go_loopw [96] (fun i wr => ∃ j : Nat, j ≤ 3 ∧ i = .int .i64 j ∧ Ext W0 wr) (fun i _ => 3 - (intOf i).toNat)
          case atStart => exact ⟨0, by omega, rfl, hE2⟩
          case round =>
            obtain ⟨p, hp, rfl, hE3⟩ := hrel
            by_cases hpt : p < 3
            · have hixi := fun a b c => ix3 a b c p hpt
              have hpd : decide ((p : Int) < 3) = true := decide_eq_true (by omega)
              go_wp2_with (first | (go_at_call 15; refine (PutText_c _ _ (by omega) _).mono ?_; rintro e w3 ⟨rfl, hb3⟩) | (go_at_call 16; refine (rPutText_c _ _ (by omega) _).mono ?_; rintro e w4 ⟨rfl, hb4⟩) | (go_at_call 17; refine (Pad_c _ _ (by omega) _).mono ?_; rintro e w5 ⟨rfl, hb5⟩) | (go_at_call 18; refine (rPad_c _ _ (by omega) _).mono ?_; rintro e w6 ⟨rfl, hb6⟩))
              go_roundw
              case rel => exact ⟨p + 1, by omega, by go_num, (by repeat (first | exact Ext.refl _ | assumption | apply Ext.alloc | apply Ext.drew | apply Ext.drewN | apply Ext.bytes | apply Ext.iter | refine Ext.setCell ?_ (by simp; omega) _ | refine Ext.trans ?_ (by assumption)))⟩
              case measure => simp [intOf]; omega
            · go_wp2_with fail
              go_roundw
              case rel => exact ⟨q + 1, by omega, by go_num, hE3⟩
              case measure => simp [intOf]; omega
        · go_wp2_with fail
          go_ret
          exact ⟨rfl, (by repeat (first | exact Ext.refl _ | assumption | apply Ext.alloc | apply Ext.drew | apply Ext.drewN | apply Ext.bytes | apply Ext.iter | refine Ext.setCell ?_ (by simp; omega) _ | refine Ext.trans ?_ (by assumption)))⟩
end Go.Proofs.Ytimecmleaeimkaa
