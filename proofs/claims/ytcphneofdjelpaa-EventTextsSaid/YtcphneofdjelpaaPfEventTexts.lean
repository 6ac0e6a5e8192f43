/- The Go function longshorelaw44.EventTexts returns true for every input and leaves its arguments as they were (no condition). -/
import Derived.Test.YtcphneofdjelpaaRows
import Derived.Test.YtcphneofdjelpaaEv23
import Derived.ProofKit
import Derived.OpenShut
import Derived.ShutString
import Derived.SizedLaws
import Derived.Carry
import Derived.Lib.SmallJoins
import Derived.Deep.SlicePairs
namespace Go.Proofs.Ytcphneofdjelpaa.eventTexts
open Go.ChangeShapes Go.WideShapes Go.ChangeAt Go.RowKit Go.Joins Go.Deep
open Go.ChangeMaps (open_string shut_string)

theorem own : ownKnob Try.prog.godebug = none := by kernel_rfl
theorem laidOut : laidOutB Try.prog = true := by kernel_rfl

set_option maxRecDepth 100000 in
theorem openCallArg {H : Type} {enc : TypeId × Go.Value → H} {W : World} {base : Nat} {v : Go.Value} {d : DataW H} {p : List MemPlace} (hv : Go.Value.okWide Try.prog W .any base 33 v) (h : DataW.Trod enc Try.prog W 0 (fun _ => true) true 33 v d p) :
    ∃ c : Go.Proofs.Ytcphneofdjelpaa.W.NV, v = .agg c.call.toArray ∧ -9223372036854775808 ≤ c.ci ∧ c.ci ≤ 9223372036854775807 := by
  obtain ⟨cs, rfl, _⟩ := okWide_struct Try.underlying33 hv
  obtain ⟨fuel, hf⟩ := h
  obtain ⟨ck, cn, ci, s0, s1, s2, s3, s4, na, nl, nc, va, vl, vc, h0, h1, h2, h3, rs, tr, hcs, _, hc⟩ := Go.Proofs.Ytcphneofdjelpaa.W.openCall (cs := cs.toList) hf
  refine ⟨⟨0, 0, ⟨#[]⟩, ck, cn, ci, s0, s1, s2, s3, s4, na, nl, nc, va, vl, vc, h0, h1, h2, h3, rs, tr, 0, 0, 0⟩, ?_, hc.1, hc.2⟩
  have : cs = cs.toList.toArray := by simp
  rw [this, hcs]; rfl
set_option maxRecDepth 100000 in
theorem walk {H : Type} {enc : TypeId × Go.Value → H} {base : Nat}
    (v0 : Go.Value) (d0 : DataW H) (p0 : List MemPlace) {W' : World} (hv0 : Go.Value.okWide Try.prog W' .any base 22 v0) (h0 : DataW.Trod enc Try.prog W' 0 (fun _ => true) true 22 v0 d0 p0) (_ : ∀ x ∈ p0, x.block < W'.heap.size)
    (v1 : Go.Value) (d1 : DataW H) (p1 : List MemPlace) (hv1 : Go.Value.okWide Try.prog W' .any base 33 v1) (h1 : DataW.Trod enc Try.prog W' 0 (fun _ => true) true 33 v1 d1 p1) (_ : ∀ x ∈ p1, x.block < W'.heap.size)
    (v2 : Go.Value) (d2 : DataW H) (p2 : List MemPlace) (hv2 : Go.Value.okWide Try.prog W' .any base 3 v2) (h2 : DataW.Trod enc Try.prog W' 0 (fun _ => true) true 3 v2 d2 p2) (_ : ∀ x ∈ p2, x.block < W'.heap.size) (w : World) (hw : w = W') :
    Calls Try.prog 4 #[v0, v1, v2] w fun e w' => e = .returned (.bool true) ∧ Below w.heap.size w w' := by
  subst hw
  obtain ⟨xs, hr, hx⟩ := Go.Proofs.Ytcphneofdjelpaa.W.openNotes hv0 h0
  obtain ⟨c, rfl, hc1, hc2⟩ := openCallArg hv1 h1
  obtain ⟨k, rfl, _⟩ := open_int Try.underlying3 hv2 h2
  exact Go.Proofs.Ytcphneofdjelpaa.W.kTexts v0 xs c k w hr (fun x h => (hx x h).2) hc1 hc2

set_option maxRecDepth 100000 in
theorem lifted (os : Os) (started : os.Started) (H : Type) (enc : TypeId × Go.Value → H) :
    ReturnsInHanded {} Try.checked os 4 .any (Rows.eventTextsSpec.pre6 enc Try.prog Try.f4 Rows.eventTextsRow.domain false) (Rows.eventTextsSpec.post enc Try.prog Try.f4 false true false false) := by
  refine returnsInHanded_of_change (C := Try.checked) own started (by kernel_rfl) Try.func4
    (ChangeSpec.witness6 (enc := enc) (C := Try.checked) false ⟨#[], #[.slice none 0 0, .agg #[.int .i64 0, .string ⟨#[]⟩, .int .i64 0, .string ⟨#[]⟩, .string ⟨#[]⟩, .string ⟨#[]⟩, .int .i64 0, .string ⟨#[]⟩, .slice none 0 0, .slice none 0 0, .string ⟨#[]⟩, .int .i64 0, .int .i64 0, .int .i64 0, .int .i64 0, .int .i64 0], .int .i64 0], []⟩ 8 (by kernel_rfl) (by kernel_rfl) (by kernel_rfl) (by kernel_rfl)) ?_
  intro W base args ds gs before hval0 hW hcnd _
  have hval : ∀ (j : Nat) t v, Try.f4.params[j]? = some t → args[j]? = some v → Go.Value.okWide Try.prog W .any base t v := hval0
  have hW' := hW
  obtain ⟨p, q, hA0, hV, rfl, hfz, hnd⟩ := hW
  have hA : DataW.TrodAll enc Try.prog W 0 (fun _ => true) true Try.f4.params.toList args.toList ds p := hA0
  rw [Try.params4] at hA hval
  obtain ⟨v0, vs0, d0, ds0, p0, q0, hargs, rfl, rfl, h0, r0⟩ := trodAll_cons hA
  obtain ⟨v1, vs1, d1, ds1, p1, q1, rfl, rfl, rfl, h1, r1⟩ := trodAll_cons r0
  obtain ⟨v2, vs2, d2, ds2, p2, q2, rfl, rfl, rfl, h2, r2⟩ := trodAll_cons r1
  obtain ⟨rfl, rfl, rfl⟩ := trodAll_nil r2
  obtain rfl : args = #[v0, v1, v2] := by cases args; simp_all
  obtain ⟨rfl, rfl⟩ := trodVars_none hV
  clear hA0 hval0
  simp only [List.append_nil] at hW'
  have hlt0 : ∀ x ∈ p0, x.block < W.heap.size := fun x hx => hW'.lt x (by simp [hx])
  have hlt1 : ∀ x ∈ p1, x.block < W.heap.size := fun x hx => hW'.lt x (by simp [hx])
  have hlt2 : ∀ x ∈ p2, x.block < W.heap.size := fun x hx => hW'.lt x (by simp [hx])
  refine (walk v0 d0 p0 (hval 0 22 v0 rfl rfl) h0 hlt0 v1 d1 p1 (hval 1 33 v1 rfl rfl) h1 hlt1 v2 d2 p2 (hval 2 3 v2 rfl rfl) h2 hlt2 W rfl).mono fun e W' ⟨he, hg⟩ => ?_
  subst he
  exact ⟨_, rfl, _, _, _, [], p0 ++ (p1 ++ (p2 ++ [])), [], hW', trodAll_mk1 (shut_bool Try.underlying4 _), (trodAll_cons_mk (Below.trod laidOut (by kernel_rfl) (of_decide_eq_true (by kernel_rfl)) h0 hg hlt0) (trodAll_cons_mk (Below.trod laidOut (by kernel_rfl) (of_decide_eq_true (by kernel_rfl)) h1 hg hlt1) (trodAll_cons_mk (Below.trod laidOut (by kernel_rfl) (of_decide_eq_true (by kernel_rfl)) h2 hg hlt2) trodAll_mk0))), rfl, hg.frame _, fun h => by cases h⟩

theorem over : Rows.eventTextsRow.holds Try.pinned (OpenSpec.ofChange Rows.eventTextsSpec) :=
  OpenClaim.holds_of_wide 4 Try.f4 rfl rfl rfl rfl rfl rfl rfl ⟨rfl, rfl, rfl, rfl, rfl⟩ rfl rfl rfl rfl rfl (by kernel_rfl) Try.func4 (by kernel_rfl)
    (of_decide_eq_true (by kernel_rfl)) (by unfold Func.isWrapper; first | (rw [if_pos (by decide +kernel)]; kernel_rfl) | (rw [if_neg (by decide +kernel)]; exact ⟨rfl, rfl⟩))
    (fun os started H enc _ => lifted os started H enc)

/-- the statement -/
theorem proved : Rows.EventTextsSaid := over
end Go.Proofs.Ytcphneofdjelpaa.eventTexts
