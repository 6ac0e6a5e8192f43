/- The Go function longshorelaw28.BurdenProjects returns true for every input and leaves its arguments as they were (no condition). -/
import Derived.Test.YtglihjdbbpohlaaRows
import Derived.Test.YtglihjdbbpohlaaBur7
import Derived.ProofKit
import Derived.OpenShut
import Derived.ShutString
import Derived.SizedLaws
import Derived.Carry
import Derived.Lib.SmallJoins
import Derived.Deep.SlicePairs
import Derived.Deep.MidRow
import Derived.ChangeArms
namespace Go.Proofs.Ytglihjdbbpohlaa.burdenProjects
open Go.ChangeShapes Go.WideShapes Go.ChangeAt Go.RowKit Go.Joins Go.Deep
open Go.ChangeMaps (open_string shut_string)

theorem own : ownKnob Try.prog.godebug = none := by kernel_rfl
theorem laidOut : laidOutB Try.prog = true := by kernel_rfl

theorem cl_apiDepS : Try.prog.cellsOf 63 = 1 := by kernel_rfl
theorem cl_apiMountS : Try.prog.cellsOf 62 = 1 := by kernel_rfl
theorem cl_apiPortS : Try.prog.cellsOf 61 = 1 := by kernel_rfl
theorem cl_apiVarS : Try.prog.cellsOf 60 = 1 := by kernel_rfl
theorem cl_stringS : Try.prog.cellsOf 56 = 1 := by kernel_rfl
theorem cl_apiCheck : Try.prog.cellsOf 65 = 4 := by kernel_rfl
theorem cl_int : Try.prog.cellsOf 3 = 1 := by kernel_rfl
theorem cl_string : Try.prog.cellsOf 9 = 1 := by kernel_rfl
theorem projCells : Try.prog.cellsOf 58 = 4 := by kernel_rfl
theorem svcCells : Try.prog.cellsOf 67 = 18 := by kernel_rfl
section
variable {H : Type} {enc : TypeId × Go.Value → H} {W : World}
theorem leaf_one {fuel : Nat} {t : TypeId} {d : TypeDesc} {v : Go.Value} {x : DataW H × List MemPlace} (hu : Try.prog.underlying t = some d) (hd : d.isRow = false) (h : DataW.trod enc Try.prog W 0 (fun _ => true) true fuel t [v] = some x) : v.oneCell' = true := by
  cases fuel with
  | zero => simp [DataW.trod] at h
  | succ n =>
    unfold DataW.trod at h
    rw [hu] at h
    cases v <;> first | rfl | (cases d <;> simp_all [TypeDesc.isRow])
set_option maxRecDepth 100000 in
set_option maxHeartbeats 2000000 in
theorem openSvc {fuel : Nat} {cs : List Go.Value} {x : DataW H × List MemPlace} (h : DataW.trod enc Try.prog W 0 (fun _ => true) true fuel 67 cs = some x) : ∃ r c m : Int, Go.Proofs.Ytglihjdbbpohlaa.W.Svc cs r c m := by
  obtain ⟨xs, n, _, _, hlen, hxl, hf⟩ := DataW.trod_struct Try.underlying67 h
  rw [svcCells] at hlen
  match cs, hlen with
  | [v0, v1, v2, v3, v4, v5, v6, v7, v8, v9, v10, v11, v12, v13, v14, v15, v16, v17], _ =>
    have g0 : DataW.trod enc Try.prog W 0 (fun _ => true) true n 9 (([v0, v1, v2, v3, v4, v5, v6, v7, v8, v9, v10, v11, v12, v13, v14, v15, v16, v17].drop 0).take (Try.prog.cellsOf 9)) = xs[0]? := hf 0 _ rfl
    rw [cl_string] at g0
    replace g0 : DataW.trod enc Try.prog W 0 (fun _ => true) true n 9 [v0] = xs[0]? := g0
    rw [List.getElem?_eq_getElem (show 0 < xs.length by rw [hxl]; decide)] at g0
    have o0 := leaf_one Try.underlying9 rfl g0
    have g1 : DataW.trod enc Try.prog W 0 (fun _ => true) true n 9 (([v0, v1, v2, v3, v4, v5, v6, v7, v8, v9, v10, v11, v12, v13, v14, v15, v16, v17].drop 1).take (Try.prog.cellsOf 9)) = xs[1]? := hf 1 _ rfl
    rw [cl_string] at g1
    replace g1 : DataW.trod enc Try.prog W 0 (fun _ => true) true n 9 [v1] = xs[1]? := g1
    rw [List.getElem?_eq_getElem (show 1 < xs.length by rw [hxl]; decide)] at g1
    have o1 := leaf_one Try.underlying9 rfl g1
    have g2 : DataW.trod enc Try.prog W 0 (fun _ => true) true n 56 (([v0, v1, v2, v3, v4, v5, v6, v7, v8, v9, v10, v11, v12, v13, v14, v15, v16, v17].drop 2).take (Try.prog.cellsOf 56)) = xs[2]? := hf 2 _ rfl
    rw [cl_stringS] at g2
    replace g2 : DataW.trod enc Try.prog W 0 (fun _ => true) true n 56 [v2] = xs[2]? := g2
    rw [List.getElem?_eq_getElem (show 2 < xs.length by rw [hxl]; decide)] at g2
    have o2 := leaf_one Try.underlying56 rfl g2
    have g3 : DataW.trod enc Try.prog W 0 (fun _ => true) true n 60 (([v0, v1, v2, v3, v4, v5, v6, v7, v8, v9, v10, v11, v12, v13, v14, v15, v16, v17].drop 3).take (Try.prog.cellsOf 60)) = xs[3]? := hf 3 _ rfl
    rw [cl_apiVarS] at g3
    replace g3 : DataW.trod enc Try.prog W 0 (fun _ => true) true n 60 [v3] = xs[3]? := g3
    rw [List.getElem?_eq_getElem (show 3 < xs.length by rw [hxl]; decide)] at g3
    have o3 := leaf_one Try.underlying60 rfl g3
    have g4 : DataW.trod enc Try.prog W 0 (fun _ => true) true n 60 (([v0, v1, v2, v3, v4, v5, v6, v7, v8, v9, v10, v11, v12, v13, v14, v15, v16, v17].drop 4).take (Try.prog.cellsOf 60)) = xs[4]? := hf 4 _ rfl
    rw [cl_apiVarS] at g4
    replace g4 : DataW.trod enc Try.prog W 0 (fun _ => true) true n 60 [v4] = xs[4]? := g4
    rw [List.getElem?_eq_getElem (show 4 < xs.length by rw [hxl]; decide)] at g4
    have o4 := leaf_one Try.underlying60 rfl g4
    have g5 : DataW.trod enc Try.prog W 0 (fun _ => true) true n 61 (([v0, v1, v2, v3, v4, v5, v6, v7, v8, v9, v10, v11, v12, v13, v14, v15, v16, v17].drop 5).take (Try.prog.cellsOf 61)) = xs[5]? := hf 5 _ rfl
    rw [cl_apiPortS] at g5
    replace g5 : DataW.trod enc Try.prog W 0 (fun _ => true) true n 61 [v5] = xs[5]? := g5
    rw [List.getElem?_eq_getElem (show 5 < xs.length by rw [hxl]; decide)] at g5
    have o5 := leaf_one Try.underlying61 rfl g5
    have g6 : DataW.trod enc Try.prog W 0 (fun _ => true) true n 62 (([v0, v1, v2, v3, v4, v5, v6, v7, v8, v9, v10, v11, v12, v13, v14, v15, v16, v17].drop 6).take (Try.prog.cellsOf 62)) = xs[6]? := hf 6 _ rfl
    rw [cl_apiMountS] at g6
    replace g6 : DataW.trod enc Try.prog W 0 (fun _ => true) true n 62 [v6] = xs[6]? := g6
    rw [List.getElem?_eq_getElem (show 6 < xs.length by rw [hxl]; decide)] at g6
    have o6 := leaf_one Try.underlying62 rfl g6
    have g7 : DataW.trod enc Try.prog W 0 (fun _ => true) true n 56 (([v0, v1, v2, v3, v4, v5, v6, v7, v8, v9, v10, v11, v12, v13, v14, v15, v16, v17].drop 7).take (Try.prog.cellsOf 56)) = xs[7]? := hf 7 _ rfl
    rw [cl_stringS] at g7
    replace g7 : DataW.trod enc Try.prog W 0 (fun _ => true) true n 56 [v7] = xs[7]? := g7
    rw [List.getElem?_eq_getElem (show 7 < xs.length by rw [hxl]; decide)] at g7
    have o7 := leaf_one Try.underlying56 rfl g7
    have g8 : DataW.trod enc Try.prog W 0 (fun _ => true) true n 63 (([v0, v1, v2, v3, v4, v5, v6, v7, v8, v9, v10, v11, v12, v13, v14, v15, v16, v17].drop 8).take (Try.prog.cellsOf 63)) = xs[8]? := hf 8 _ rfl
    rw [cl_apiDepS] at g8
    replace g8 : DataW.trod enc Try.prog W 0 (fun _ => true) true n 63 [v8] = xs[8]? := g8
    rw [List.getElem?_eq_getElem (show 8 < xs.length by rw [hxl]; decide)] at g8
    have o8 := leaf_one Try.underlying63 rfl g8
    have g9 : DataW.trod enc Try.prog W 0 (fun _ => true) true n 3 (([v0, v1, v2, v3, v4, v5, v6, v7, v8, v9, v10, v11, v12, v13, v14, v15, v16, v17].drop 9).take (Try.prog.cellsOf 3)) = xs[9]? := hf 9 _ rfl
    rw [cl_int] at g9
    replace g9 : DataW.trod enc Try.prog W 0 (fun _ => true) true n 3 [v9] = xs[9]? := g9
    rw [List.getElem?_eq_getElem (show 9 < xs.length by rw [hxl]; decide)] at g9
    have o9 := leaf_one Try.underlying3 rfl g9
    have g10 : DataW.trod enc Try.prog W 0 (fun _ => true) true n 65 (([v0, v1, v2, v3, v4, v5, v6, v7, v8, v9, v10, v11, v12, v13, v14, v15, v16, v17].drop 10).take (Try.prog.cellsOf 65)) = xs[10]? := hf 10 _ rfl
    rw [cl_apiCheck] at g10
    replace g10 : DataW.trod enc Try.prog W 0 (fun _ => true) true n 65 [v10, v11, v12, v13] = xs[10]? := g10
    rw [List.getElem?_eq_getElem (show 10 < xs.length by rw [hxl]; decide)] at g10
    have g11 : DataW.trod enc Try.prog W 0 (fun _ => true) true n 3 (([v0, v1, v2, v3, v4, v5, v6, v7, v8, v9, v10, v11, v12, v13, v14, v15, v16, v17].drop 14).take (Try.prog.cellsOf 3)) = xs[11]? := hf 11 _ rfl
    rw [cl_int] at g11
    replace g11 : DataW.trod enc Try.prog W 0 (fun _ => true) true n 3 [v14] = xs[11]? := g11
    rw [List.getElem?_eq_getElem (show 11 < xs.length by rw [hxl]; decide)] at g11
    have o14 := leaf_one Try.underlying3 rfl g11
    have g12 : DataW.trod enc Try.prog W 0 (fun _ => true) true n 3 (([v0, v1, v2, v3, v4, v5, v6, v7, v8, v9, v10, v11, v12, v13, v14, v15, v16, v17].drop 15).take (Try.prog.cellsOf 3)) = xs[12]? := hf 12 _ rfl
    rw [cl_int] at g12
    replace g12 : DataW.trod enc Try.prog W 0 (fun _ => true) true n 3 [v15] = xs[12]? := g12
    rw [List.getElem?_eq_getElem (show 12 < xs.length by rw [hxl]; decide)] at g12
    have o15 := leaf_one Try.underlying3 rfl g12
    have g13 : DataW.trod enc Try.prog W 0 (fun _ => true) true n 3 (([v0, v1, v2, v3, v4, v5, v6, v7, v8, v9, v10, v11, v12, v13, v14, v15, v16, v17].drop 16).take (Try.prog.cellsOf 3)) = xs[13]? := hf 13 _ rfl
    rw [cl_int] at g13
    replace g13 : DataW.trod enc Try.prog W 0 (fun _ => true) true n 3 [v16] = xs[13]? := g13
    rw [List.getElem?_eq_getElem (show 13 < xs.length by rw [hxl]; decide)] at g13
    have o16 := leaf_one Try.underlying3 rfl g13
    have g14 : DataW.trod enc Try.prog W 0 (fun _ => true) true n 3 (([v0, v1, v2, v3, v4, v5, v6, v7, v8, v9, v10, v11, v12, v13, v14, v15, v16, v17].drop 17).take (Try.prog.cellsOf 3)) = xs[14]? := hf 14 _ rfl
    rw [cl_int] at g14
    replace g14 : DataW.trod enc Try.prog W 0 (fun _ => true) true n 3 [v17] = xs[14]? := g14
    rw [List.getElem?_eq_getElem (show 14 < xs.length by rw [hxl]; decide)] at g14
    have o17 := leaf_one Try.underlying3 rfl g14
    obtain ⟨ys, n2, _, _, _, hyl, hg⟩ := DataW.trod_struct Try.underlying65 g10
    have k0 : DataW.trod enc Try.prog W 0 (fun _ => true) true n2 9 (([v10, v11, v12, v13].drop 0).take (Try.prog.cellsOf 9)) = ys[0]? := hg 0 _ rfl
    rw [cl_string] at k0
    replace k0 : DataW.trod enc Try.prog W 0 (fun _ => true) true n2 9 [v10] = ys[0]? := k0
    rw [List.getElem?_eq_getElem (show 0 < ys.length by rw [hyl]; decide)] at k0
    have o10 := leaf_one Try.underlying9 rfl k0
    have k1 : DataW.trod enc Try.prog W 0 (fun _ => true) true n2 3 (([v10, v11, v12, v13].drop 1).take (Try.prog.cellsOf 3)) = ys[1]? := hg 1 _ rfl
    rw [cl_int] at k1
    replace k1 : DataW.trod enc Try.prog W 0 (fun _ => true) true n2 3 [v11] = ys[1]? := k1
    rw [List.getElem?_eq_getElem (show 1 < ys.length by rw [hyl]; decide)] at k1
    have o11 := leaf_one Try.underlying3 rfl k1
    have k2 : DataW.trod enc Try.prog W 0 (fun _ => true) true n2 3 (([v10, v11, v12, v13].drop 2).take (Try.prog.cellsOf 3)) = ys[2]? := hg 2 _ rfl
    rw [cl_int] at k2
    replace k2 : DataW.trod enc Try.prog W 0 (fun _ => true) true n2 3 [v12] = ys[2]? := k2
    rw [List.getElem?_eq_getElem (show 2 < ys.length by rw [hyl]; decide)] at k2
    have o12 := leaf_one Try.underlying3 rfl k2
    have k3 : DataW.trod enc Try.prog W 0 (fun _ => true) true n2 3 (([v10, v11, v12, v13].drop 3).take (Try.prog.cellsOf 3)) = ys[3]? := hg 3 _ rfl
    rw [cl_int] at k3
    replace k3 : DataW.trod enc Try.prog W 0 (fun _ => true) true n2 3 [v13] = ys[3]? := k3
    rw [List.getElem?_eq_getElem (show 3 < ys.length by rw [hyl]; decide)] at k3
    have o13 := leaf_one Try.underlying3 rfl k3
    obtain ⟨r, er, _, _⟩ := DataW.trod_int Try.underlying3 g9
    obtain ⟨c, ec, _, _⟩ := DataW.trod_int Try.underlying3 g13
    obtain ⟨m, em, _, _⟩ := DataW.trod_int Try.underlying3 g14
    simp only [List.cons.injEq, and_true] at er ec em
    subst er ec em
    refine ⟨r, c, m, rfl, rfl, rfl, rfl, fun v hv => ?_⟩
    simp only [List.mem_cons, List.not_mem_nil, or_false] at hv
    rcases hv with rfl | rfl | rfl | rfl | rfl | rfl | rfl | rfl | rfl | rfl | rfl | rfl | rfl | rfl | rfl | rfl | rfl | rfl
    · exact o0
    · exact o1
    · exact o2
    · exact o3
    · exact o4
    · exact o5
    · exact o6
    · exact o7
    · exact o8
    · exact o9
    · exact o10
    · exact o11
    · exact o12
    · exact o13
    · exact o14
    · exact o15
    · exact o16
    · exact o17
theorem add_add2 (a : Addr) (i j : Nat) : (a.add i).add j = a.add (i + j) := by
  unfold Addr.add
  by_cases hi : i = 0 <;> by_cases hj : j = 0 <;> simp [hi, hj, Nat.add_assoc]
set_option maxRecDepth 100000 in
set_option maxHeartbeats 2000000 in
theorem openProject {base : Nat} {v : Go.Value} {d : DataW H} {p : List MemPlace} (hv : Go.Value.okWide Try.prog W .any base 58 v) (h : DataW.Trod enc Try.prog W 0 (fun _ => true) true 58 v d p) :
    ∃ (p0 p2 p3 : Go.Value) (A : Option Addr) (n cap : Nat) (V : Nat → List Go.Value) (r c m : Nat → Int), v = .agg #[p0, .slice A n cap, p2, p3] ∧ n ≤ cap ∧ cap ≤ maxLen ∧
      (0 < n → ∃ b off, A = some ⟨b, off, none⟩ ∧ b < W.heap.size ∧ ∀ i, i < n → W.rangeAt b (off + i * 18) (V i) ∧ Go.Proofs.Ytglihjdbbpohlaa.W.Svc (V i) (r i) (c i) (m i)) := by
  obtain ⟨c0, c1, c2, c3, y0, y1, y2, y3, m, rfl, _, _, hy0, hy1, hy2, hy3⟩ := open_agg4 Try.underlying58 (by kernel_rfl) projCells hv h
  rcases open_slice Try.underlying55 hy1 with ⟨hcs, _⟩ | ⟨a, len, cap, mm, nn, D, Pl, hcs, _, hl, hm, hmm, _, hi⟩
  · simp only [List.cons.injEq, and_true] at hcs
    subst hcs
    exact ⟨c0, c2, c3, none, 0, 0, fun _ => [], fun _ => 0, fun _ => 0, fun _ => 0, rfl, Nat.le_refl _, by unfold maxLen; omega, fun h => absurd h (by omega)⟩
  · simp only [List.cons.injEq, and_true] at hcs
    subst hcs
    have hlm : len ≤ mm := by rw [hmm]; simp; exact hl
    have each : ∀ i, i < len → ∃ q : List Go.Value × Int × Int × Int, (∀ j, j < 18 → W.cell? ((a.add (i * 18)).add j) = q.1[j]?) ∧ Go.Proofs.Ytglihjdbbpohlaa.W.Svc q.1 q.2.1 q.2.2.1 q.2.2.2 := fun i hil => by
      obtain ⟨cs', hc, ht⟩ := hi i (by omega)
      rw [svcCells] at hc
      obtain ⟨_, _, hat⟩ := World.cells?_some hc
      obtain ⟨r, c, m, hs⟩ := openSvc ht
      exact ⟨(cs', r, c, m), hat, hs⟩
    obtain ⟨q, hq⟩ := choose_lt each
    refine ⟨c0, c2, c3, some a, len, cap, fun i => (q i).1, fun i => (q i).2.1, fun i => (q i).2.2.1, fun i => (q i).2.2.2, rfl, hl, hm, fun h0 => ?_⟩
    obtain ⟨b, off, spot⟩ := a
    have hq0 := hq 0 h0
    have h00 := hq0.1 9 (by omega)
    rw [hq0.2.2.1] at h00
    have hq00 := hq0.1 0 (by omega)
    have hl0 : (q 0).1.length = 18 := hq0.2.1
    rw [List.getElem?_eq_getElem (show 0 < (q 0).1.length by omega)] at hq00
    have hspot : spot = none := by simpa [Addr.add] using World.cell?_spot hq00
    subst hspot
    refine ⟨b, off, rfl, World.block_lt_of_cell? W ⟨b, off, none⟩ (by simpa [Addr.add] using hq00), fun i hil => ⟨fun j v hv => ?_, (hq i hil).2⟩⟩
    have hj : j < 18 := by
      have h18 : (q i).1.length = 18 := (hq i hil).2.1
      have := (List.getElem?_eq_some_iff.1 (show (q i).1[j]? = some v from hv)).1
      omega
    have := (hq i hil).1 j hj
    rw [add_add2, Go.WideShapes.add_plain, show (q i).1[j]? = some v from hv] at this
    rw [Nat.add_assoc]; exact this
end
set_option maxRecDepth 100000 in
theorem walk {H : Type} {enc : TypeId × Go.Value → H} {base : Nat}
    (v0 : Go.Value) (d0 : DataW H) (p0 : List MemPlace) {W' : World} (hv0 : Go.Value.okWide Try.prog W' .any base 58 v0) (h0 : DataW.Trod enc Try.prog W' 0 (fun _ => true) true 58 v0 d0 p0) (_ : ∀ x ∈ p0, x.block < W'.heap.size) (w : World) (hw : w = W') :
    Calls Try.prog 10 #[v0] w fun e w' => e = .returned (.bool true) ∧ Below w.heap.size w w' := by
  subst hw
  obtain ⟨q0, q2, q3, A, n, cap, V, r, c, m, rfl, hcap, hmax, hcell⟩ := openProject hv0 h0
  by_cases hn : n ≤ 30
  · exact Go.Proofs.Ytglihjdbbpohlaa.W.kBurdenProjects q0 q2 q3 A n cap V r c m w hn hcap hmax hcell
  · exact Go.Proofs.Ytglihjdbbpohlaa.W.kBurdenProjectsMany q0 q2 q3 A n cap w (by omega) (Nat.le_trans hcap hmax)

set_option maxRecDepth 100000 in
theorem lifted (os : Os) (started : os.Started) (H : Type) (enc : TypeId × Go.Value → H) :
    ReturnsInHanded {} Try.checked os 10 .any (Rows.burdenProjectsSpec.pre6 enc Try.prog Try.f10 Rows.burdenProjectsRow.domain false) (Rows.burdenProjectsSpec.post enc Try.prog Try.f10 false true false false) := by
  refine returnsInHanded_of_change (C := Try.checked) own started (by kernel_rfl) Try.func10
    (ChangeSpec.witness6 (enc := enc) (C := Try.checked) false ⟨#[], #[.agg #[.string ⟨#[]⟩, .slice none 0 0, .slice none 0 0, .slice none 0 0]], []⟩ 8 (by kernel_rfl) (by kernel_rfl) (by kernel_rfl) (by kernel_rfl)) ?_
  intro W base args ds gs before hval0 hW hcnd _
  have hval : ∀ (j : Nat) t v, Try.f10.params[j]? = some t → args[j]? = some v → Go.Value.okWide Try.prog W .any base t v := hval0
  have hW' := hW
  obtain ⟨p, q, hA0, hV, rfl, hfz, hnd⟩ := hW
  have hA : DataW.TrodAll enc Try.prog W 0 (fun _ => true) true Try.f10.params.toList args.toList ds p := hA0
  rw [Try.params10] at hA hval
  obtain ⟨v0, vs0, d0, ds0, p0, q0, hargs, rfl, rfl, h0, r0⟩ := trodAll_cons hA
  obtain ⟨rfl, rfl, rfl⟩ := trodAll_nil r0
  obtain rfl : args = #[v0] := by cases args; simp_all
  obtain ⟨rfl, rfl⟩ := trodVars_none hV
  clear hA0 hval0
  simp only [List.append_nil] at hW'
  have hlt0 : ∀ x ∈ p0, x.block < W.heap.size := fun x hx => hW'.lt x (by simp [hx])
  refine (walk v0 d0 p0 (hval 0 58 v0 rfl rfl) h0 hlt0 W rfl).mono fun e W' ⟨he, hg⟩ => ?_
  subst he
  exact ⟨_, rfl, _, _, _, [], p0 ++ [], [], hW', trodAll_mk1 (shut_bool Try.underlying4 _), (trodAll_cons_mk (Below.trod laidOut (by kernel_rfl) (of_decide_eq_true (by kernel_rfl)) h0 hg hlt0) trodAll_mk0), rfl, hg.frame _, fun h => by cases h⟩

theorem over : Rows.burdenProjectsRow.holds Try.pinned (OpenSpec.ofChange Rows.burdenProjectsSpec) :=
  OpenClaim.holds_of_wide 10 Try.f10 rfl rfl rfl rfl rfl rfl rfl ⟨rfl, rfl, rfl, rfl, rfl⟩ rfl rfl rfl rfl rfl (by kernel_rfl) Try.func10 (by kernel_rfl)
    (of_decide_eq_true (by kernel_rfl)) (by unfold Func.isWrapper; first | (rw [if_pos (by decide +kernel)]; kernel_rfl) | (rw [if_neg (by decide +kernel)]; exact ⟨rfl, rfl⟩))
    (fun os started H enc _ => lifted os started H enc)

/-- the statement -/
theorem proved : Rows.BurdenProjectsSaid := over
end Go.Proofs.Ytglihjdbbpohlaa.burdenProjects
