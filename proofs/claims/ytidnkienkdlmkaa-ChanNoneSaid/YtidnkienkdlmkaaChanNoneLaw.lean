/-
  ChanNone returns true at every input. No condition.
-/
import Derived.Test.YtidnkienkdlmkaaChFrame
import Derived.Test.YtidnkienkdlmkaaChNoneB
import Derived.Lib.SmallJoins
namespace Go.Proofs.Ytidnkienkdlmkaa
open Go.ChangeShapes Go.WideShapes Go.ChangeAt Go.RowKit Go.Sh Go.Joins
open Go.ChangeMaps (open_string shut_string)
set_option linter.unusedVariables false

set_option maxRecDepth 100000 in
theorem chanNone_lifted (os : Os) (started : os.Started) (H : Type) (enc : TypeId × Value → H) :
    ReturnsInHanded {} Try.checked os 13 .any (Rows.chanNoneSpec.pre6 enc Try.prog Try.f13 Rows.chanNoneRow.domain false) (Rows.chanNoneSpec.post enc Try.prog Try.f13 false true false false) := by
  refine returnsInHanded_of_change (C := Try.checked) ownKnobs started (by kernel_rfl) Try.func13
    (ChangeSpec.witness6 (enc := enc) (C := Try.checked) false ⟨#[], #[.agg #[.int .i64 0, .int .i64 0, .int .i64 0]], []⟩ 8 (by kernel_rfl) (by kernel_rfl) (by kernel_rfl) (by kernel_rfl)) ?_
  intro W base args ds gs before hval0 hW hcnd _
  have hval : ∀ (j : Nat) t v, Try.f13.params[j]? = some t → args[j]? = some v → Value.okWide Try.prog W .any base t v := hval0
  have hW' := hW
  obtain ⟨p, q, hA0, hV, rfl, hfz, hnd⟩ := hW
  have hA : DataW.TrodAll enc Try.prog W 0 (fun _ => true) true Try.f13.params.toList args.toList ds p := hA0
  rw [Try.params13] at hA hval
  obtain ⟨v0, vs0, d0, ds0, p0, q0, hargs, rfl, rfl, h0, r0⟩ := trodAll_cons hA
  obtain ⟨rfl, rfl, rfl⟩ := trodAll_nil r0
  obtain rfl : args = #[v0] := by cases args; simp_all
  obtain ⟨rfl, rfl⟩ := trodVars_none hV
  have k0 := h0
  have lt0 : ∀ x ∈ p0, x.block < W.heap.size := by obtain ⟨m, hm⟩ := k0; exact DataW.trod_lt m _ _ _ hm
  obtain ⟨c0, c1, c2, y0, y1, y2, m, hv, _, _, hy0, hy1, hy2⟩ := open_agg3 Try.underlying96 (by kernel_rfl) Try.cells96 (hval 0 96 v0 rfl rfl) h0
  obtain ⟨x0, e0, _, w0⟩ := DataW.trod_int Try.underlying3 hy0
  obtain ⟨x1, e1, _, w1⟩ := DataW.trod_int Try.underlying3 hy1
  obtain ⟨x2, e2, _, w2⟩ := DataW.trod_int Try.underlying2 hy2
  simp at e0 e1 e2
  subst e0 e1 e2
  clear hA0 hval0
  have hcall : Calls Try.prog 13 #[v0] W (fun e w' => e = .returned (.bool true) ∧ Below W.heap.size W w') := by rw [hv]; exact cnone13 ⟨x0, x1, x2⟩ W
  refine hcall.mono fun e W' ⟨he', bel⟩ => ?_
  subst he'
  exact ⟨_, rfl, _, _, _, [], _, [], hW', trodAll_mk1 (shut_bool Try.underlying4 _), (trodAll_cons_mk (Below.trod laidOut (by kernel_rfl) (of_decide_eq_true (by kernel_rfl)) k0 bel lt0) trodAll_mk0), rfl, bel.frame _, fun h => by cases h⟩

theorem chanNone_over : Rows.chanNoneRow.holds Try.pinned (OpenSpec.ofChange Rows.chanNoneSpec) :=
  OpenClaim.holds_of_wide 13 Try.f13 rfl rfl rfl rfl rfl rfl rfl ⟨rfl, rfl, rfl, rfl, rfl⟩ rfl rfl rfl rfl rfl (by kernel_rfl) Try.func13 (by kernel_rfl)
    (of_decide_eq_true (by kernel_rfl)) (by unfold Func.isWrapper; first | (rw [if_pos (by decide +kernel)]; kernel_rfl) | (rw [if_neg (by decide +kernel)]; exact ⟨rfl, rfl⟩))
    (fun os started H enc _ => chanNone_lifted os started H enc)

theorem chanNone_holds : Rows.ChanNoneSaid := chanNone_over
#print axioms chanNone_holds
end Go.Proofs.Ytidnkienkdlmkaa
