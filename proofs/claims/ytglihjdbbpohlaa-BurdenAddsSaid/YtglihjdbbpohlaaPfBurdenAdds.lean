/- The Go function longshorelaw28.BurdenAdds returns true for every input and leaves its arguments as they were (no condition). -/
import Derived.Test.YtglihjdbbpohlaaRows
import Derived.Test.YtglihjdbbpohlaaBur4
import Derived.ProofKit
import Derived.OpenShut
import Derived.ShutString
import Derived.SizedLaws
import Derived.Carry
import Derived.Lib.SmallJoins
import Derived.Deep.SlicePairs
namespace Go.Proofs.Ytglihjdbbpohlaa.burdenAdds
open Go.ChangeShapes Go.WideShapes Go.ChangeAt Go.RowKit Go.Joins Go.Deep
open Go.ChangeMaps (open_string shut_string)

theorem own : ownKnob Try.prog.godebug = none := by kernel_rfl
theorem laidOut : laidOutB Try.prog = true := by kernel_rfl

theorem pairCells : Try.prog.cellsOf 33 = 2 := by kernel_rfl
theorem intCells : Try.prog.cellsOf 3 = 1 := by kernel_rfl
set_option maxRecDepth 100000 in
theorem openPair {H : Type} {enc : TypeId × Go.Value → H} {W : World} {base : Nat} {v : Go.Value} {d : DataW H} {p : List MemPlace} (hv : Go.Value.okWide Try.prog W .any base 33 v) (h : DataW.Trod enc Try.prog W 0 (fun _ => true) true 33 v d p) :
    ∃ a b : Int, v = .agg #[.int .i64 a, .int .i64 b] := by
  obtain ⟨c0, c1, y0, y1, m, rfl, _, _, hy0, hy1⟩ := open_agg2 Try.underlying33 (by kernel_rfl) pairCells hv h
  obtain ⟨a, e0, _, _⟩ := DataW.trod_int Try.underlying3 hy0
  obtain ⟨b, e1, _, _⟩ := DataW.trod_int Try.underlying3 hy1
  simp at e0 e1
  subst e0 e1
  exact ⟨a, b, rfl⟩
set_option maxRecDepth 100000 in
theorem openPairs {H : Type} {enc : TypeId × Go.Value → H} {W : World} {base : Nat} {v : Go.Value} {d : DataW H} {p : List MemPlace} (hv : Go.Value.okWide Try.prog W .any base 31 v) (h : DataW.Trod enc Try.prog W 0 (fun _ => true) true 31 v d p) :
    ∃ (A : Option Addr) (n cap : Nat) (c m : Nat → Int), v = .slice A n cap ∧ n ≤ cap ∧ n ≤ maxLen ∧ (0 < n → ∃ b off, A = some ⟨b, off, none⟩ ∧ b < W.heap.size ∧ ∀ i, i < n → W.cell? ⟨b, off + i * 2, none⟩ = some (.int .i64 (c i)) ∧ W.cell? ⟨b, off + i * 2 + 1, none⟩ = some (.int .i64 (m i))) := by
  obtain ⟨a0, len, cap, rfl⟩ := okWide_slice Try.underlying31 hv
  obtain ⟨fuel, hf⟩ := h
  rcases open_slice_pairs Try.underlying31 Try.underlying33 pairCells rfl rfl intCells intCells hf with ⟨hcs, hx⟩ | ⟨a, len', cap', m, n, V0, V1, D0, D1, P0, P1, hcs, _, hl, hm, hmm, hx, hc⟩
  · simp [Go.Value.cells] at hcs
    obtain ⟨rfl, rfl, rfl⟩ := hcs
    exact ⟨none, 0, 0, fun _ => 0, fun _ => 0, rfl, Nat.le_refl _, by unfold maxLen; omega, fun h => absurd h (by omega)⟩
  · simp [Go.Value.cells] at hcs
    obtain ⟨rfl, rfl, rfl⟩ := hcs
    refine ⟨some a, len, cap, fun i => intOf (V0 i), fun i => intOf (V1 i), rfl, hl, by omega, fun h0 => ?_⟩
    have hlm : len ≤ m := by rw [hmm]; simp; exact hl
    obtain ⟨b, off, spot⟩ := a
    have hc0 := (hc 0 (by omega)).1
    have hspot : spot = none := by simpa [Addr.add] using World.cell?_spot hc0
    subst hspot
    refine ⟨b, off, rfl, World.block_lt_of_cell? W ⟨b, off, none⟩ (by simpa [Addr.add] using hc0), fun i hi => ?_⟩
    obtain ⟨h1, h2, h3, h4⟩ := hc i (by omega)
    obtain ⟨x, e0, _, _⟩ := DataW.trod_int Try.underlying3 h3
    obtain ⟨y, e1, _, _⟩ := DataW.trod_int Try.underlying3 h4
    simp at e0 e1
    rw [Go.WideShapes.add_plain] at h1 h2
    refine ⟨?_, ?_⟩
    · show _ = some (Go.Value.int .i64 (intOf (V0 i)))
      rw [h1, e0]; rfl
    · show _ = some (Go.Value.int .i64 (intOf (V1 i)))
      rw [Nat.add_assoc, h2, e1]; rfl
set_option maxRecDepth 100000 in
theorem walk {H : Type} {enc : TypeId × Go.Value → H} {base : Nat}
    (v0 : Go.Value) (d0 : DataW H) (p0 : List MemPlace) {W' : World} (hv0 : Go.Value.okWide Try.prog W' .any base 31 v0) (h0 : DataW.Trod enc Try.prog W' 0 (fun _ => true) true 31 v0 d0 p0) (_ : ∀ x ∈ p0, x.block < W'.heap.size)
    (v1 : Go.Value) (d1 : DataW H) (p1 : List MemPlace) (hv1 : Go.Value.okWide Try.prog W' .any base 33 v1) (h1 : DataW.Trod enc Try.prog W' 0 (fun _ => true) true 33 v1 d1 p1) (_ : ∀ x ∈ p1, x.block < W'.heap.size) (w : World) (hw : w = W') :
    Calls Try.prog 6 #[v0, v1] w fun e w' => e = .returned (.bool true) ∧ Below w.heap.size w w' := by
  subst hw
  obtain ⟨A, n, cap, c, m, rfl, hcap, hmax, hcell⟩ := openPairs hv0 h0
  obtain ⟨a, b, rfl⟩ := openPair hv1 h1
  by_cases hn : n ≤ 200
  · exact W.kBurdenAdds A n cap c m a b w hn hcap hcell
  · exact W.kBurdenAddsMany a b w A n cap (by omega) hmax

set_option maxRecDepth 100000 in
theorem lifted (os : Os) (started : os.Started) (H : Type) (enc : TypeId × Go.Value → H) :
    ReturnsInHanded {} Try.checked os 6 .any (Rows.burdenAddsSpec.pre6 enc Try.prog Try.f6 Rows.burdenAddsRow.domain false) (Rows.burdenAddsSpec.post enc Try.prog Try.f6 false true false false) := by
  refine returnsInHanded_of_change (C := Try.checked) own started (by kernel_rfl) Try.func6
    (ChangeSpec.witness6 (enc := enc) (C := Try.checked) false ⟨#[], #[.slice none 0 0, .agg #[.int .i64 0, .int .i64 0]], []⟩ 8 (by kernel_rfl) (by kernel_rfl) (by kernel_rfl) (by kernel_rfl)) ?_
  intro W base args ds gs before hval0 hW hcnd _
  have hval : ∀ (j : Nat) t v, Try.f6.params[j]? = some t → args[j]? = some v → Go.Value.okWide Try.prog W .any base t v := hval0
  have hW' := hW
  obtain ⟨p, q, hA0, hV, rfl, hfz, hnd⟩ := hW
  have hA : DataW.TrodAll enc Try.prog W 0 (fun _ => true) true Try.f6.params.toList args.toList ds p := hA0
  rw [Try.params6] at hA hval
  obtain ⟨v0, vs0, d0, ds0, p0, q0, hargs, rfl, rfl, h0, r0⟩ := trodAll_cons hA
  obtain ⟨v1, vs1, d1, ds1, p1, q1, rfl, rfl, rfl, h1, r1⟩ := trodAll_cons r0
  obtain ⟨rfl, rfl, rfl⟩ := trodAll_nil r1
  obtain rfl : args = #[v0, v1] := by cases args; simp_all
  obtain ⟨rfl, rfl⟩ := trodVars_none hV
  clear hA0 hval0
  simp only [List.append_nil] at hW'
  have hlt0 : ∀ x ∈ p0, x.block < W.heap.size := fun x hx => hW'.lt x (by simp [hx])
  have hlt1 : ∀ x ∈ p1, x.block < W.heap.size := fun x hx => hW'.lt x (by simp [hx])
  refine (walk v0 d0 p0 (hval 0 31 v0 rfl rfl) h0 hlt0 v1 d1 p1 (hval 1 33 v1 rfl rfl) h1 hlt1 W rfl).mono fun e W' ⟨he, hg⟩ => ?_
  subst he
  exact ⟨_, rfl, _, _, _, [], p0 ++ (p1 ++ []), [], hW', trodAll_mk1 (shut_bool Try.underlying4 _), (trodAll_cons_mk (Below.trod laidOut (by kernel_rfl) (of_decide_eq_true (by kernel_rfl)) h0 hg hlt0) (trodAll_cons_mk (Below.trod laidOut (by kernel_rfl) (of_decide_eq_true (by kernel_rfl)) h1 hg hlt1) trodAll_mk0)), rfl, hg.frame _, fun h => by cases h⟩

theorem over : Rows.burdenAddsRow.holds Try.pinned (OpenSpec.ofChange Rows.burdenAddsSpec) :=
  OpenClaim.holds_of_wide 6 Try.f6 rfl rfl rfl rfl rfl rfl rfl ⟨rfl, rfl, rfl, rfl, rfl⟩ rfl rfl rfl rfl rfl (by kernel_rfl) Try.func6 (by kernel_rfl)
    (of_decide_eq_true (by kernel_rfl)) (by unfold Func.isWrapper; first | (rw [if_pos (by decide +kernel)]; kernel_rfl) | (rw [if_neg (by decide +kernel)]; exact ⟨rfl, rfl⟩))
    (fun os started H enc _ => lifted os started H enc)

/-- the statement -/
theorem proved : Rows.BurdenAddsSaid := over
end Go.Proofs.Ytglihjdbbpohlaa.burdenAdds
