/- Notes and calls that came in, opened. -/
import Derived.Test.YtcphneofdjelpaaEv16
import Derived.ProofKit
import Derived.OpenShut
import Derived.ShutString
import Derived.SizedLaws
import Derived.Carry
import Derived.Lib.SmallJoins
import Derived.Deep.SlicePairs
import Derived.Deep.MidRow
import Derived.ChangeArms
namespace Go.Proofs.Ytcphneofdjelpaa.W
open Go.ChangeShapes Go.WideShapes Go.ChangeAt Go.RowKit Go.Joins Go.Deep

/-- numbers within their bounds -/
structure NV.num (x : NV) : Prop where
  a1 : -9223372036854775808 ≤ x.a0
  a2 : x.a0 ≤ 9223372036854775807
  c1 : -9223372036854775808 ≤ x.ci
  c2 : x.ci ≤ 9223372036854775807
  i1 : -9223372036854775808 ≤ x.id
  i2 : x.id ≤ 9223372036854775807
  w1 : -9223372036854775808 ≤ x.what
  w2 : x.what ≤ 9223372036854775807
theorem cl_int : Try.prog.cellsOf 3 = 1 := by kernel_rfl
theorem cl_string : Try.prog.cellsOf 9 = 1 := by kernel_rfl
theorem cl_stringS : Try.prog.cellsOf 27 = 1 := by kernel_rfl
theorem cl_apiCheck : Try.prog.cellsOf 29 = 4 := by kernel_rfl
theorem cl_apiSpec : Try.prog.cellsOf 31 = 13 := by kernel_rfl
theorem cl_apiCall : Try.prog.cellsOf 33 = 16 := by kernel_rfl
theorem cl_longshoreref44Note : Try.prog.cellsOf 36 = 22 := by kernel_rfl
theorem cl_apiErrno : Try.prog.cellsOf 34 = 1 := by kernel_rfl
section
variable {H : Type} {enc : TypeId × Go.Value → H} {W : World}
theorem openStrs {fuel : Nat} {v : Go.Value} {x : DataW H × List MemPlace} (h : DataW.trod enc Try.prog W 0 (fun _ => true) true fuel 27 [v] = some x) : ∃ (A : Option Addr) (n c : Nat), v = .slice A n c ∧ SRow W A n c := by
  rcases open_slice1 Try.underlying27 cl_string h with ⟨hcs, _⟩ | ⟨a, len, cap, m, n, V, D, Pl, hcs, _, hl, hm, hmm, _, hc⟩
  · simp only [List.cons.injEq, and_true] at hcs
    subst hcs
    exact ⟨none, 0, 0, rfl, Nat.le_refl _, by unfold maxLen; omega, fun h => absurd h (by omega)⟩
  · simp only [List.cons.injEq, and_true] at hcs
    subst hcs
    have hlm : len ≤ m := by rw [hmm]; simp; exact hl
    refine ⟨some a, len, cap, rfl, hl, hm, fun h0 => ?_⟩
    obtain ⟨b, off, spot⟩ := a
    have hc0 := (hc 0 (by omega)).1
    have hspot : spot = none := by simpa [Addr.add] using World.cell?_spot hc0
    subst hspot
    refine ⟨b, off, rfl, World.block_lt_of_cell? W ⟨b, off, none⟩ (by simpa [Addr.add] using hc0), fun i hi => ?_⟩
    obtain ⟨h1, h2⟩ := hc i (by omega)
    obtain ⟨s, e, _, _⟩ := DataW.trod_string Try.underlying9 h2
    simp only [List.cons.injEq, and_true] at e
    rw [Go.WideShapes.add_plain, e] at h1
    exact ⟨s, h1⟩
set_option maxRecDepth 100000 in
set_option maxHeartbeats 2000000 in
theorem openCheck {fuel : Nat} {cs : List Go.Value} {x : DataW H × List MemPlace} (h : DataW.trod enc Try.prog W 0 (fun _ => true) true fuel 29 cs = some x) : ∃ (h0 : ByteArray) (h1 h2 h3 : Int), cs = [.string h0, .int .i64 h1, .int .i64 h2, .int .i64 h3] := by
  obtain ⟨xs, n, _, _, hlen, hxl, hf⟩ := DataW.trod_struct Try.underlying29 h
  rw [cl_apiCheck] at hlen
  match cs, hlen with
  | [v0, v1, v2, v3], _ =>
    have g0 : DataW.trod enc Try.prog W 0 (fun _ => true) true n 9 (([v0, v1, v2, v3].drop 0).take (Try.prog.cellsOf 9)) = xs[0]? := hf 0 _ rfl
    rw [cl_string] at g0
    replace g0 : DataW.trod enc Try.prog W 0 (fun _ => true) true n 9 [v0] = xs[0]? := g0
    rw [List.getElem?_eq_getElem (show 0 < xs.length by rw [hxl]; decide)] at g0
    have g1 : DataW.trod enc Try.prog W 0 (fun _ => true) true n 3 (([v0, v1, v2, v3].drop 1).take (Try.prog.cellsOf 3)) = xs[1]? := hf 1 _ rfl
    rw [cl_int] at g1
    replace g1 : DataW.trod enc Try.prog W 0 (fun _ => true) true n 3 [v1] = xs[1]? := g1
    rw [List.getElem?_eq_getElem (show 1 < xs.length by rw [hxl]; decide)] at g1
    have g2 : DataW.trod enc Try.prog W 0 (fun _ => true) true n 3 (([v0, v1, v2, v3].drop 2).take (Try.prog.cellsOf 3)) = xs[2]? := hf 2 _ rfl
    rw [cl_int] at g2
    replace g2 : DataW.trod enc Try.prog W 0 (fun _ => true) true n 3 [v2] = xs[2]? := g2
    rw [List.getElem?_eq_getElem (show 2 < xs.length by rw [hxl]; decide)] at g2
    have g3 : DataW.trod enc Try.prog W 0 (fun _ => true) true n 3 (([v0, v1, v2, v3].drop 3).take (Try.prog.cellsOf 3)) = xs[3]? := hf 3 _ rfl
    rw [cl_int] at g3
    replace g3 : DataW.trod enc Try.prog W 0 (fun _ => true) true n 3 [v3] = xs[3]? := g3
    rw [List.getElem?_eq_getElem (show 3 < xs.length by rw [hxl]; decide)] at g3
    obtain ⟨h0, e0, _, _⟩ := DataW.trod_string Try.underlying9 g0
    simp only [List.cons.injEq, and_true] at e0
    subst e0
    obtain ⟨h1, e1, _, k1⟩ := DataW.trod_int Try.underlying3 g1
    simp only [List.cons.injEq, and_true] at e1
    subst e1
    obtain ⟨h2, e2, _, k2⟩ := DataW.trod_int Try.underlying3 g2
    simp only [List.cons.injEq, and_true] at e2
    subst e2
    obtain ⟨h3, e3, _, k3⟩ := DataW.trod_int Try.underlying3 g3
    simp only [List.cons.injEq, and_true] at e3
    subst e3
    exact ⟨h0, h1, h2, h3, rfl⟩
set_option maxRecDepth 100000 in
set_option maxHeartbeats 2000000 in
theorem openSpec {fuel : Nat} {cs : List Go.Value} {x : DataW H × List MemPlace} (h : DataW.trod enc Try.prog W 0 (fun _ => true) true fuel 31 cs = some x) : ∃ (s0 s1 s2 : ByteArray) (s3 : Int) (s4 : ByteArray) (na : Option Addr) (nl nc : Nat) (va : Option Addr) (vl vc : Nat) (h0 : ByteArray) (h1 h2 h3 rs tr : Int), cs = [.string s0, .string s1, .string s2, .int .i64 s3, .string s4, .slice na nl nc, .slice va vl vc, .string h0, .int .i64 h1, .int .i64 h2, .int .i64 h3, .int .i64 rs, .int .i64 tr] ∧ SRow W na nl nc ∧ SRow W va vl vc := by
  obtain ⟨xs, n, _, _, hlen, hxl, hf⟩ := DataW.trod_struct Try.underlying31 h
  rw [cl_apiSpec] at hlen
  match cs, hlen with
  | [v0, v1, v2, v3, v4, v5, v6, v7, v8, v9, v10, v11, v12], _ =>
    have g0 : DataW.trod enc Try.prog W 0 (fun _ => true) true n 9 (([v0, v1, v2, v3, v4, v5, v6, v7, v8, v9, v10, v11, v12].drop 0).take (Try.prog.cellsOf 9)) = xs[0]? := hf 0 _ rfl
    rw [cl_string] at g0
    replace g0 : DataW.trod enc Try.prog W 0 (fun _ => true) true n 9 [v0] = xs[0]? := g0
    rw [List.getElem?_eq_getElem (show 0 < xs.length by rw [hxl]; decide)] at g0
    have g1 : DataW.trod enc Try.prog W 0 (fun _ => true) true n 9 (([v0, v1, v2, v3, v4, v5, v6, v7, v8, v9, v10, v11, v12].drop 1).take (Try.prog.cellsOf 9)) = xs[1]? := hf 1 _ rfl
    rw [cl_string] at g1
    replace g1 : DataW.trod enc Try.prog W 0 (fun _ => true) true n 9 [v1] = xs[1]? := g1
    rw [List.getElem?_eq_getElem (show 1 < xs.length by rw [hxl]; decide)] at g1
    have g2 : DataW.trod enc Try.prog W 0 (fun _ => true) true n 9 (([v0, v1, v2, v3, v4, v5, v6, v7, v8, v9, v10, v11, v12].drop 2).take (Try.prog.cellsOf 9)) = xs[2]? := hf 2 _ rfl
    rw [cl_string] at g2
    replace g2 : DataW.trod enc Try.prog W 0 (fun _ => true) true n 9 [v2] = xs[2]? := g2
    rw [List.getElem?_eq_getElem (show 2 < xs.length by rw [hxl]; decide)] at g2
    have g3 : DataW.trod enc Try.prog W 0 (fun _ => true) true n 3 (([v0, v1, v2, v3, v4, v5, v6, v7, v8, v9, v10, v11, v12].drop 3).take (Try.prog.cellsOf 3)) = xs[3]? := hf 3 _ rfl
    rw [cl_int] at g3
    replace g3 : DataW.trod enc Try.prog W 0 (fun _ => true) true n 3 [v3] = xs[3]? := g3
    rw [List.getElem?_eq_getElem (show 3 < xs.length by rw [hxl]; decide)] at g3
    have g4 : DataW.trod enc Try.prog W 0 (fun _ => true) true n 9 (([v0, v1, v2, v3, v4, v5, v6, v7, v8, v9, v10, v11, v12].drop 4).take (Try.prog.cellsOf 9)) = xs[4]? := hf 4 _ rfl
    rw [cl_string] at g4
    replace g4 : DataW.trod enc Try.prog W 0 (fun _ => true) true n 9 [v4] = xs[4]? := g4
    rw [List.getElem?_eq_getElem (show 4 < xs.length by rw [hxl]; decide)] at g4
    have g5 : DataW.trod enc Try.prog W 0 (fun _ => true) true n 27 (([v0, v1, v2, v3, v4, v5, v6, v7, v8, v9, v10, v11, v12].drop 5).take (Try.prog.cellsOf 27)) = xs[5]? := hf 5 _ rfl
    rw [cl_stringS] at g5
    replace g5 : DataW.trod enc Try.prog W 0 (fun _ => true) true n 27 [v5] = xs[5]? := g5
    rw [List.getElem?_eq_getElem (show 5 < xs.length by rw [hxl]; decide)] at g5
    have g6 : DataW.trod enc Try.prog W 0 (fun _ => true) true n 27 (([v0, v1, v2, v3, v4, v5, v6, v7, v8, v9, v10, v11, v12].drop 6).take (Try.prog.cellsOf 27)) = xs[6]? := hf 6 _ rfl
    rw [cl_stringS] at g6
    replace g6 : DataW.trod enc Try.prog W 0 (fun _ => true) true n 27 [v6] = xs[6]? := g6
    rw [List.getElem?_eq_getElem (show 6 < xs.length by rw [hxl]; decide)] at g6
    have g7 : DataW.trod enc Try.prog W 0 (fun _ => true) true n 29 (([v0, v1, v2, v3, v4, v5, v6, v7, v8, v9, v10, v11, v12].drop 7).take (Try.prog.cellsOf 29)) = xs[7]? := hf 7 _ rfl
    rw [cl_apiCheck] at g7
    replace g7 : DataW.trod enc Try.prog W 0 (fun _ => true) true n 29 [v7, v8, v9, v10] = xs[7]? := g7
    rw [List.getElem?_eq_getElem (show 7 < xs.length by rw [hxl]; decide)] at g7
    have g8 : DataW.trod enc Try.prog W 0 (fun _ => true) true n 3 (([v0, v1, v2, v3, v4, v5, v6, v7, v8, v9, v10, v11, v12].drop 11).take (Try.prog.cellsOf 3)) = xs[8]? := hf 8 _ rfl
    rw [cl_int] at g8
    replace g8 : DataW.trod enc Try.prog W 0 (fun _ => true) true n 3 [v11] = xs[8]? := g8
    rw [List.getElem?_eq_getElem (show 8 < xs.length by rw [hxl]; decide)] at g8
    have g9 : DataW.trod enc Try.prog W 0 (fun _ => true) true n 3 (([v0, v1, v2, v3, v4, v5, v6, v7, v8, v9, v10, v11, v12].drop 12).take (Try.prog.cellsOf 3)) = xs[9]? := hf 9 _ rfl
    rw [cl_int] at g9
    replace g9 : DataW.trod enc Try.prog W 0 (fun _ => true) true n 3 [v12] = xs[9]? := g9
    rw [List.getElem?_eq_getElem (show 9 < xs.length by rw [hxl]; decide)] at g9
    obtain ⟨s0, e0, _, _⟩ := DataW.trod_string Try.underlying9 g0
    simp only [List.cons.injEq, and_true] at e0
    subst e0
    obtain ⟨s1, e1, _, _⟩ := DataW.trod_string Try.underlying9 g1
    simp only [List.cons.injEq, and_true] at e1
    subst e1
    obtain ⟨s2, e2, _, _⟩ := DataW.trod_string Try.underlying9 g2
    simp only [List.cons.injEq, and_true] at e2
    subst e2
    obtain ⟨s3, e3, _, k3⟩ := DataW.trod_int Try.underlying3 g3
    simp only [List.cons.injEq, and_true] at e3
    subst e3
    obtain ⟨s4, e4, _, _⟩ := DataW.trod_string Try.underlying9 g4
    simp only [List.cons.injEq, and_true] at e4
    subst e4
    obtain ⟨na, nl, nc, rfl, r5⟩ := openStrs g5
    obtain ⟨va, vl, vc, rfl, r6⟩ := openStrs g6
    obtain ⟨h0, h1, h2, h3, e7⟩ := openCheck g7
    simp only [List.cons.injEq, and_true] at e7
    obtain ⟨rfl, rfl, rfl, rfl⟩ := e7
    obtain ⟨rs, e8, _, k8⟩ := DataW.trod_int Try.underlying3 g8
    simp only [List.cons.injEq, and_true] at e8
    subst e8
    obtain ⟨tr, e9, _, k9⟩ := DataW.trod_int Try.underlying3 g9
    simp only [List.cons.injEq, and_true] at e9
    subst e9
    exact ⟨s0, s1, s2, s3, s4, na, nl, nc, va, vl, vc, h0, h1, h2, h3, rs, tr, rfl, r5, r6⟩
set_option maxRecDepth 100000 in
set_option maxHeartbeats 2000000 in
theorem openCall {fuel : Nat} {cs : List Go.Value} {x : DataW H × List MemPlace} (h : DataW.trod enc Try.prog W 0 (fun _ => true) true fuel 33 cs = some x) : ∃ (ck : Int) (cn : ByteArray) (ci : Int) (s0 s1 s2 : ByteArray) (s3 : Int) (s4 : ByteArray) (na : Option Addr) (nl nc : Nat) (va : Option Addr) (vl vc : Nat) (h0 : ByteArray) (h1 h2 h3 rs tr : Int), cs = [.int .i64 ck, .string cn, .int .i64 ci, .string s0, .string s1, .string s2, .int .i64 s3, .string s4, .slice na nl nc, .slice va vl vc, .string h0, .int .i64 h1, .int .i64 h2, .int .i64 h3, .int .i64 rs, .int .i64 tr] ∧ (SRow W na nl nc ∧ SRow W va vl vc) ∧ (-9223372036854775808 ≤ ci ∧ ci ≤ 9223372036854775807) := by
  obtain ⟨xs, n, _, _, hlen, hxl, hf⟩ := DataW.trod_struct Try.underlying33 h
  rw [cl_apiCall] at hlen
  match cs, hlen with
  | [v0, v1, v2, v3, v4, v5, v6, v7, v8, v9, v10, v11, v12, v13, v14, v15], _ =>
    have g0 : DataW.trod enc Try.prog W 0 (fun _ => true) true n 3 (([v0, v1, v2, v3, v4, v5, v6, v7, v8, v9, v10, v11, v12, v13, v14, v15].drop 0).take (Try.prog.cellsOf 3)) = xs[0]? := hf 0 _ rfl
    rw [cl_int] at g0
    replace g0 : DataW.trod enc Try.prog W 0 (fun _ => true) true n 3 [v0] = xs[0]? := g0
    rw [List.getElem?_eq_getElem (show 0 < xs.length by rw [hxl]; decide)] at g0
    have g1 : DataW.trod enc Try.prog W 0 (fun _ => true) true n 9 (([v0, v1, v2, v3, v4, v5, v6, v7, v8, v9, v10, v11, v12, v13, v14, v15].drop 1).take (Try.prog.cellsOf 9)) = xs[1]? := hf 1 _ rfl
    rw [cl_string] at g1
    replace g1 : DataW.trod enc Try.prog W 0 (fun _ => true) true n 9 [v1] = xs[1]? := g1
    rw [List.getElem?_eq_getElem (show 1 < xs.length by rw [hxl]; decide)] at g1
    have g2 : DataW.trod enc Try.prog W 0 (fun _ => true) true n 3 (([v0, v1, v2, v3, v4, v5, v6, v7, v8, v9, v10, v11, v12, v13, v14, v15].drop 2).take (Try.prog.cellsOf 3)) = xs[2]? := hf 2 _ rfl
    rw [cl_int] at g2
    replace g2 : DataW.trod enc Try.prog W 0 (fun _ => true) true n 3 [v2] = xs[2]? := g2
    rw [List.getElem?_eq_getElem (show 2 < xs.length by rw [hxl]; decide)] at g2
    have g3 : DataW.trod enc Try.prog W 0 (fun _ => true) true n 31 (([v0, v1, v2, v3, v4, v5, v6, v7, v8, v9, v10, v11, v12, v13, v14, v15].drop 3).take (Try.prog.cellsOf 31)) = xs[3]? := hf 3 _ rfl
    rw [cl_apiSpec] at g3
    replace g3 : DataW.trod enc Try.prog W 0 (fun _ => true) true n 31 [v3, v4, v5, v6, v7, v8, v9, v10, v11, v12, v13, v14, v15] = xs[3]? := g3
    rw [List.getElem?_eq_getElem (show 3 < xs.length by rw [hxl]; decide)] at g3
    obtain ⟨ck, e0, _, k0⟩ := DataW.trod_int Try.underlying3 g0
    simp only [List.cons.injEq, and_true] at e0
    subst e0
    obtain ⟨cn, e1, _, _⟩ := DataW.trod_string Try.underlying9 g1
    simp only [List.cons.injEq, and_true] at e1
    subst e1
    obtain ⟨ci, e2, _, k2⟩ := DataW.trod_int Try.underlying3 g2
    simp only [List.cons.injEq, and_true] at e2
    subst e2
    obtain ⟨s0, s1, s2, s3, s4, na, nl, nc, va, vl, vc, h0, h1, h2, h3, rs, tr, e3, r3, r4⟩ := openSpec g3
    simp only [List.cons.injEq, and_true] at e3
    obtain ⟨rfl, rfl, rfl, rfl, rfl, rfl, rfl, rfl, rfl, rfl, rfl, rfl, rfl⟩ := e3
    exact ⟨ck, cn, ci, s0, s1, s2, s3, s4, na, nl, nc, va, vl, vc, h0, h1, h2, h3, rs, tr, rfl, ⟨r3, r4⟩, bounds_i64 k2⟩
set_option maxRecDepth 100000 in
set_option maxHeartbeats 2000000 in
theorem openNote {fuel : Nat} {cs : List Go.Value} {x : DataW H × List MemPlace} (h : DataW.trod enc Try.prog W 0 (fun _ => true) true fuel 36 cs = some x) : ∃ y : NV, cs = y.cells ∧ Rd W y ∧ y.num := by
  obtain ⟨xs, n, _, _, hlen, hxl, hf⟩ := DataW.trod_struct Try.underlying36 h
  rw [cl_longshoreref44Note] at hlen
  match cs, hlen with
  | [v0, v1, v2, v3, v4, v5, v6, v7, v8, v9, v10, v11, v12, v13, v14, v15, v16, v17, v18, v19, v20, v21], _ =>
    have g0 : DataW.trod enc Try.prog W 0 (fun _ => true) true n 3 (([v0, v1, v2, v3, v4, v5, v6, v7, v8, v9, v10, v11, v12, v13, v14, v15, v16, v17, v18, v19, v20, v21].drop 0).take (Try.prog.cellsOf 3)) = xs[0]? := hf 0 _ rfl
    rw [cl_int] at g0
    replace g0 : DataW.trod enc Try.prog W 0 (fun _ => true) true n 3 [v0] = xs[0]? := g0
    rw [List.getElem?_eq_getElem (show 0 < xs.length by rw [hxl]; decide)] at g0
    have g1 : DataW.trod enc Try.prog W 0 (fun _ => true) true n 3 (([v0, v1, v2, v3, v4, v5, v6, v7, v8, v9, v10, v11, v12, v13, v14, v15, v16, v17, v18, v19, v20, v21].drop 1).take (Try.prog.cellsOf 3)) = xs[1]? := hf 1 _ rfl
    rw [cl_int] at g1
    replace g1 : DataW.trod enc Try.prog W 0 (fun _ => true) true n 3 [v1] = xs[1]? := g1
    rw [List.getElem?_eq_getElem (show 1 < xs.length by rw [hxl]; decide)] at g1
    have g2 : DataW.trod enc Try.prog W 0 (fun _ => true) true n 9 (([v0, v1, v2, v3, v4, v5, v6, v7, v8, v9, v10, v11, v12, v13, v14, v15, v16, v17, v18, v19, v20, v21].drop 2).take (Try.prog.cellsOf 9)) = xs[2]? := hf 2 _ rfl
    rw [cl_string] at g2
    replace g2 : DataW.trod enc Try.prog W 0 (fun _ => true) true n 9 [v2] = xs[2]? := g2
    rw [List.getElem?_eq_getElem (show 2 < xs.length by rw [hxl]; decide)] at g2
    have g3 : DataW.trod enc Try.prog W 0 (fun _ => true) true n 33 (([v0, v1, v2, v3, v4, v5, v6, v7, v8, v9, v10, v11, v12, v13, v14, v15, v16, v17, v18, v19, v20, v21].drop 3).take (Try.prog.cellsOf 33)) = xs[3]? := hf 3 _ rfl
    rw [cl_apiCall] at g3
    replace g3 : DataW.trod enc Try.prog W 0 (fun _ => true) true n 33 [v3, v4, v5, v6, v7, v8, v9, v10, v11, v12, v13, v14, v15, v16, v17, v18] = xs[3]? := g3
    rw [List.getElem?_eq_getElem (show 3 < xs.length by rw [hxl]; decide)] at g3
    have g4 : DataW.trod enc Try.prog W 0 (fun _ => true) true n 3 (([v0, v1, v2, v3, v4, v5, v6, v7, v8, v9, v10, v11, v12, v13, v14, v15, v16, v17, v18, v19, v20, v21].drop 19).take (Try.prog.cellsOf 3)) = xs[4]? := hf 4 _ rfl
    rw [cl_int] at g4
    replace g4 : DataW.trod enc Try.prog W 0 (fun _ => true) true n 3 [v19] = xs[4]? := g4
    rw [List.getElem?_eq_getElem (show 4 < xs.length by rw [hxl]; decide)] at g4
    have g5 : DataW.trod enc Try.prog W 0 (fun _ => true) true n 3 (([v0, v1, v2, v3, v4, v5, v6, v7, v8, v9, v10, v11, v12, v13, v14, v15, v16, v17, v18, v19, v20, v21].drop 20).take (Try.prog.cellsOf 3)) = xs[5]? := hf 5 _ rfl
    rw [cl_int] at g5
    replace g5 : DataW.trod enc Try.prog W 0 (fun _ => true) true n 3 [v20] = xs[5]? := g5
    rw [List.getElem?_eq_getElem (show 5 < xs.length by rw [hxl]; decide)] at g5
    have g6 : DataW.trod enc Try.prog W 0 (fun _ => true) true n 34 (([v0, v1, v2, v3, v4, v5, v6, v7, v8, v9, v10, v11, v12, v13, v14, v15, v16, v17, v18, v19, v20, v21].drop 21).take (Try.prog.cellsOf 34)) = xs[6]? := hf 6 _ rfl
    rw [cl_apiErrno] at g6
    replace g6 : DataW.trod enc Try.prog W 0 (fun _ => true) true n 34 [v21] = xs[6]? := g6
    rw [List.getElem?_eq_getElem (show 6 < xs.length by rw [hxl]; decide)] at g6
    obtain ⟨a0, e0, _, k0⟩ := DataW.trod_int Try.underlying3 g0
    simp only [List.cons.injEq, and_true] at e0
    subst e0
    obtain ⟨kind, e1, _, k1⟩ := DataW.trod_int Try.underlying3 g1
    simp only [List.cons.injEq, and_true] at e1
    subst e1
    obtain ⟨proj, e2, _, _⟩ := DataW.trod_string Try.underlying9 g2
    simp only [List.cons.injEq, and_true] at e2
    subst e2
    obtain ⟨ck, cn, ci, s0, s1, s2, s3, s4, na, nl, nc, va, vl, vc, h0, h1, h2, h3, rs, tr, e3, r3, r4⟩ := openCall g3
    simp only [List.cons.injEq, and_true] at e3
    obtain ⟨rfl, rfl, rfl, rfl, rfl, rfl, rfl, rfl, rfl, rfl, rfl, rfl, rfl, rfl, rfl, rfl⟩ := e3
    obtain ⟨id, e4, _, k4⟩ := DataW.trod_int Try.underlying3 g4
    simp only [List.cons.injEq, and_true] at e4
    subst e4
    obtain ⟨what, e5, _, k5⟩ := DataW.trod_int Try.underlying3 g5
    simp only [List.cons.injEq, and_true] at e5
    subst e5
    obtain ⟨e, e6, _, k6⟩ := DataW.trod_int Try.underlying34 g6
    simp only [List.cons.injEq, and_true] at e6
    subst e6
    exact ⟨⟨a0, kind, proj, ck, cn, ci, s0, s1, s2, s3, s4, na, nl, nc, va, vl, vc, h0, h1, h2, h3, rs, tr, id, what, e⟩, rfl, r3, ⟨(bounds_i64 k0).1, (bounds_i64 k0).2, r4.1, r4.2, (bounds_i64 k4).1, (bounds_i64 k4).2, (bounds_i64 k5).1, (bounds_i64 k5).2⟩⟩
theorem add_add2 (a : Addr) (i j : Nat) : (a.add i).add j = a.add (i + j) := by
  unfold Addr.add
  by_cases hi : i = 0 <;> by_cases hj : j = 0 <;> simp [hi, hj, Nat.add_assoc]
set_option maxRecDepth 100000 in
set_option maxHeartbeats 2000000 in
theorem openNotes {base : Nat} {v : Go.Value} {d : DataW H} {p : List MemPlace} (hv : Go.Value.okWide Try.prog W .any base 22 v) (h : DataW.Trod enc Try.prog W 0 (fun _ => true) true 22 v d p) :
    ∃ xs : List NV, NRow W v xs ∧ ∀ x ∈ xs, Rd W x ∧ x.num := by
  obtain ⟨a0, len, cap, rfl⟩ := okWide_slice Try.underlying22 hv
  obtain ⟨fuel, hf⟩ := h
  rcases open_slice Try.underlying22 hf with ⟨hcs, _⟩ | ⟨a, len', cap', mm, nn, D, Pl, hcs, _, hl, hm, hmm, _, hi⟩
  · simp [Go.Value.cells] at hcs
    obtain ⟨rfl, rfl, rfl⟩ := hcs
    exact ⟨[], ⟨none, 0, rfl, Nat.le_refl _, by unfold maxLen; omega, fun h => absurd h (by decide)⟩, fun x hx => by simp at hx⟩
  · simp [Go.Value.cells] at hcs
    obtain ⟨rfl, rfl, rfl⟩ := hcs
    have hlm : len ≤ mm := by rw [hmm]; simp; exact hl
    have each : ∀ i, i < len → ∃ y : NV, (∀ j, j < 22 → W.cell? ((a.add (i * 22)).add j) = y.cells[j]?) ∧ Rd W y ∧ y.num := fun i hil => by
      obtain ⟨cs', hc, ht⟩ := hi i (by omega)
      rw [cl_longshoreref44Note] at hc
      obtain ⟨_, _, hat⟩ := World.cells?_some hc
      obtain ⟨y, rfl, h1, h2⟩ := openNote ht
      exact ⟨y, hat, h1, h2⟩
    have : Inhabited NV := ⟨noNV⟩
    obtain ⟨q, hq⟩ := choose_lt each
    have hlen : ((List.range len).map q).length = len := by simp
    have hget : ∀ (i : Nat) x, ((List.range len).map q)[i]? = some x → i < len ∧ x = q i := fun i x hx => by
      have hi : i < len := by have := (List.getElem?_eq_some_iff.1 hx).1; rwa [hlen] at this
      rw [List.getElem?_map, List.getElem?_range hi] at hx
      simp only [Option.map_some, Option.some.injEq] at hx
      exact ⟨hi, hx.symm⟩
    refine ⟨(List.range len).map q, ⟨some a, cap, by rw [hlen], by rw [hlen]; exact hl, hm, fun h0 => ?_⟩, fun x hx => ?_⟩
    · rw [hlen] at h0
      obtain ⟨b, off, spot⟩ := a
      have h00 := (hq 0 h0).1 0 (by omega)
      rw [show (q 0).cells[0]? = some (.int .i64 (q 0).a0) from rfl] at h00
      have hspot : spot = none := by simpa [Addr.add] using World.cell?_spot h00
      subst hspot
      refine ⟨b, off, rfl, World.block_lt_of_cell? W ⟨b, off, none⟩ (by simpa [Addr.add] using h00), fun i x hx j v hv => ?_⟩
      obtain ⟨hi, rfl⟩ := hget i x hx
      have hj : j < 22 := by have := (List.getElem?_eq_some_iff.1 hv).1; rwa [NV.len] at this
      have := (hq i hi).1 j hj
      rw [add_add2, Go.WideShapes.add_plain, hv] at this
      rw [Nat.add_assoc]; exact this
    · obtain ⟨i, hi, rfl⟩ := List.mem_map.1 hx
      exact (hq i (List.mem_range.1 hi)).2
end
end Go.Proofs.Ytcphneofdjelpaa.W
