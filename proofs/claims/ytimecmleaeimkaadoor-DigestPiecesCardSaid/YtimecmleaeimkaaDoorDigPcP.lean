/- DigestPieces: for every Long, text, change and digest in progress, the law returns true; the tied card. Conditions: the two tables of unicode/utf8 that the row lists stand as the program's text lays them (the walk reads neither). -/
import Derived.Test.YtimecmleaeimkaaDoorRows
import Derived.Test.YtimecmleaeimkaaDoorCards
import Derived.Test.YtimecmleaeimkaaDoorTie
import Derived.Test.YtimecmleaeimkaaDoorDigOd
import Derived.WalkKit
import Derived.ProofKit
import Derived.OpenShut
import Derived.ShutString
import Derived.ChangeOld
import Derived.Below
import Derived.SizedLaws
import Derived.LaidMore
import Derived.Lay
import Derived.SevenTiedAt
import Derived.Stop.Joined
import Derived.Lib.SmallJoins
namespace Go.Proofs.YtimecmleaeimkaaDoor.digestPieces
open Go.ChangeShapes Go.WideShapes Go.ChangeAt Go.RowKit Go.Joins
open Go.ChangeMaps (open_string shut_string)
set_option linter.unusedVariables false
theorem own : ownKnob Tryd.prog.godebug = none := by kernel_rfl
theorem laidOut : laidOutB Tryd.prog = true := by kernel_rfl
theorem laid_met (os : Os) (args : Array Value) : laidMetH Tryd.prog Rows.digestPiecesRow.laid ((World.laidAll Tryd.prog os Rows.digestPiecesRow.laid).forCall (fun _ _ => 0) ⟨#[], args, []⟩).memory := by
  rw [MakeChecks.laidMetH_plain _ _ _ (by kernel_rfl)]; exact laidMet_laidAll _ (by kernel_rfl) (by kernel_rfl)
set_option maxRecDepth 100000 in
set_option maxHeartbeats 800000 in
theorem lifted (os : Os) (started : os.Started) (H : Type) (enc : TypeId × Value → H) :
    ReturnsInHanded {} Tryd.checked os 5 .any (fun w args => (Rows.digestPiecesSpec.pre enc Tryd.prog Tryd.f5 [] false w args ∧ laidMetH Tryd.prog Rows.digestPiecesRow.laid w) ∧ sizedMet enc Tryd.prog Tryd.f5 (OpenSpec.ofChange Rows.digestPiecesSpec) false w args) (Rows.digestPiecesSpec.post enc Tryd.prog Tryd.f5 false true false false) := by
  refine returnsInHanded_of_change_and (C := Tryd.checked) (X := fun w _ => laidMetH Tryd.prog Rows.digestPiecesRow.laid w) (fun _ _ _ hh h => h.of_heap hh) own started (by kernel_rfl) Tryd.func5
    (ChangeSpec.witness_shaped (enc := enc) (C := Tryd.checked) (os := os) (X := fun w _ => laidMetH Tryd.prog Rows.digestPiecesRow.laid w) false (World.laidAll Tryd.prog os Rows.digestPiecesRow.laid) #[.agg #[.string ByteArray.empty, .string ByteArray.empty, .int .u16 0], .string ByteArray.empty, .agg #[.int .u8 0, .int .u8 0, .int .i64 0], .agg #[.int .i64 0, .int .i64 0, .int .i64 0, .int .i64 0, .int .i64 0, .string ByteArray.empty]] 8 (World.laidAll_os _ _ _) (World.shaped_of_ZipB (by kernel_rfl) (by kernel_rfl)) (by kernel_rfl) (by kernel_rfl) (by kernel_rfl) (laid_met os _)) ?_
  intro W base args ds gs before hval0 hW hcnd hsz0 _ _
  have hsz : (DataW.weightsEach Tryd.prog (Tryd.f5.params.toList ++ Rows.digestPiecesSpec.plain.varTypes Tryd.prog) (ds ++ gs)).all (· ≤ reachBytes) = true := hsz0
  have hval : ∀ (j : Nat) t v, Tryd.f5.params[j]? = some t → args[j]? = some v → Value.okWide Tryd.prog W .any base t v := hval0
  have hW' := hW
  obtain ⟨p, q, hA0, hV, rfl, hfz, hnd⟩ := hW
  have hA : DataW.TrodAll enc Tryd.prog W 0 (fun _ => true) true Tryd.f5.params.toList args.toList ds p := hA0
  rw [Tryd.params5] at hA hval hsz
  obtain ⟨v0, vs0, d0, ds0, p0, q0, hargs, rfl, rfl, h0, r0⟩ := trodAll_cons hA
  obtain ⟨v1, vs1, d1, ds1, p1, q1, rfl, rfl, rfl, h1, r1⟩ := trodAll_cons r0
  obtain ⟨v2, vs2, d2, ds2, p2, q2, rfl, rfl, rfl, h2, r2⟩ := trodAll_cons r1
  obtain ⟨v3, vs3, d3, ds3, p3, q3, rfl, rfl, rfl, h3, r3⟩ := trodAll_cons r2
  obtain ⟨rfl, rfl, rfl⟩ := trodAll_nil r3
  obtain rfl : args = #[v0, v1, v2, v3] := by cases args; simp_all
  obtain ⟨rfl, rfl⟩ := trodVars_none hV
  obtain ⟨c0_0, c0_1, c0_2, y0_0, y0_1, y0_2, m0, rfl, rfl, rfl, hy0_0, hy0_1, hy0_2⟩ := open_agg3 Tryd.underlying24 (by kernel_rfl) (by kernel_rfl) (hval 0 24 v0 rfl rfl) h0
  obtain ⟨S, e0_0, rfl, hS⟩ := DataW.trod_string Tryd.underlying9 hy0_0
  simp at e0_0
  subst e0_0
  obtain ⟨L, e0_1, rfl, hL⟩ := DataW.trod_string Tryd.underlying9 hy0_1
  simp at e0_1
  subst e0_1
  obtain ⟨k, e0_2, rfl, wk⟩ := DataW.trod_int Tryd.underlying22 hy0_2
  simp at e0_2
  subst e0_2
  have kk : 0 ≤ k ∧ k ≤ 65535 := by simp only [Lit.wf, Bool.and_eq_true, decide_eq_true_eq] at wk; exact wk
  obtain ⟨nk, rfl⟩ := Int.eq_ofNat_of_zero_le kk.1
  obtain ⟨s1, rfl, rfl, rfl, hs1⟩ := open_string Tryd.underlying9 (hval 1 9 v1 rfl rfl) h1
  obtain ⟨c2_0, c2_1, c2_2, y2_0, y2_1, y2_2, m2, rfl, rfl, rfl, hy2_0, hy2_1, hy2_2⟩ := open_agg3 Tryd.underlying38 (by kernel_rfl) (by kernel_rfl) (hval 2 38 v2 rfl rfl) h2
  obtain ⟨bw, e2_0, rfl, wbw⟩ := DataW.trod_int Tryd.underlying5 hy2_0
  simp at e2_0
  subst e2_0
  have kbw : 0 ≤ bw ∧ bw ≤ 255 := by simp only [Lit.wf, Bool.and_eq_true, decide_eq_true_eq] at wbw; exact wbw
  obtain ⟨nbw, rfl⟩ := Int.eq_ofNat_of_zero_le kbw.1
  obtain ⟨ba, e2_1, rfl, wba⟩ := DataW.trod_int Tryd.underlying5 hy2_1
  simp at e2_1
  subst e2_1
  have kba : 0 ≤ ba ∧ ba ≤ 255 := by simp only [Lit.wf, Bool.and_eq_true, decide_eq_true_eq] at wba; exact wba
  obtain ⟨nba, rfl⟩ := Int.eq_ofNat_of_zero_le kba.1
  obtain ⟨bn, e2_2, rfl, wbn⟩ := DataW.trod_int Tryd.underlying3 hy2_2
  simp at e2_2
  subst e2_2
  obtain ⟨dg, rfl, hdg, rfl, rfl⟩ := open_dg (hval 3 41 v3 rfl rfl) h3
  clear hA0 hval0 hsz0 hsz
  refine (DigestPieces_c S L hS hL nk (by omega) s1 hs1 nbw (by omega) nba (by omega) bn dg hdg.r W).mono fun e W' ⟨he, bel⟩ => ?_
  subst he
  exact ⟨_, rfl, _, _, _, [], _, [], hW', trodAll_mk1 (shut_bool Tryd.underlying4 _), (trodAll_cons_mk (shut_agg3 Tryd.underlying24 (by kernel_rfl) (by kernel_rfl) (shut_string Tryd.underlying9 hS) (shut_string Tryd.underlying9 hL) (shut_int Tryd.underlying22 wk)) (trodAll_cons_mk (shut_string Tryd.underlying9 hs1) (trodAll_cons_mk (shut_agg3 Tryd.underlying38 (by kernel_rfl) (by kernel_rfl) (shut_int Tryd.underlying5 wbw) (shut_int Tryd.underlying5 wba) (shut_int Tryd.underlying3 wbn)) (trodAll_cons_mk (shut_dg dg hdg) trodAll_mk0)))), rfl, bel.frame _, fun h => by cases h⟩
theorem over : Rows.digestPiecesRow.holds Tryd.pinned (OpenSpec.ofChange Rows.digestPiecesSpec) :=
  OpenClaim.holds_of_wide 5 Tryd.f5 rfl rfl rfl rfl rfl rfl rfl ⟨rfl, rfl, rfl, rfl, rfl⟩ rfl rfl rfl rfl rfl (by kernel_rfl) Tryd.func5 (by kernel_rfl)
    (of_decide_eq_true (by kernel_rfl)) (by unfold Func.isWrapper; first | (rw [if_pos (by decide +kernel)]; kernel_rfl) | (rw [if_neg (by decide +kernel)]; exact ⟨rfl, rfl⟩))
    (fun os started H enc _ => lifted os started H enc)
theorem card : Claim7.holds Tryd.pinned (.plain (OpenSpec.ofChange Rows.digestPiecesSpec)) Rows.digestPiecesCard :=
  Claim7.holds_tied_plain_at .later [] [.data, .pinned] true Rows.digestPiecesCard.stood.harness false
    over (fun _ h => by cases h) (by kernel_rfl) (fun _ h => by cases h) digestPieces_row_tie rfl ⟨rfl, rfl⟩ (by kernel_rfl) rfl
    (fun f fn hf hfn => by
      obtain rfl : f = 5 := Option.some.inj ((show Tryd.prog.funcNamed "verdigris/verdigrislaw08.DigestPieces" = some 5 by kernel_rfl).symm.trans hf) |>.symm
      obtain rfl : fn = Tryd.f5 := (Option.some.inj (Tryd.func5.symm.trans hfn)).symm
      exact ⟨by kernel_rfl, fun j t ht => by
        rw [Tryd.params5] at ht
        have hm : t ∈ [24, 9, 38, 41] := by simpa using Array.mem_of_getElem? ht
        have hall : ([24, 9, 38, 41].all fun u => !Tryd.prog.wantsStandIn u) = true := by kernel_rfl
        exact (show Tryd.prog.wantsStandIn t = false by simpa using List.all_eq_true.1 hall t hm)⟩)
    (by kernel_rfl)
end Go.Proofs.YtimecmleaeimkaaDoor.digestPieces
namespace Go.Proofs.YtimecmleaeimkaaDoor
theorem digestPieces_card_holds : Rows.DigestPiecesCardSaid := digestPieces.card
#print axioms digestPieces_card_holds
end Go.Proofs.YtimecmleaeimkaaDoor
