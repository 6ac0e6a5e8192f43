/- The walk of BurdenProjects. -/
import Derived.Test.YtglihjdbbpohlaaBur6
import Derived.Deep.DeepMust
namespace Go.Proofs.Ytglihjdbbpohlaa.W
open Go.RowKit Go.Proofs.Ytglihjdbbpohlaa.Pl

theorem list18 (cs : List Go.Value) (r c m : Int) (h : Svc cs r c m) : ∃ v0 v1 v2 v3 v4 v5 v6 v7 v8 v10 v11 v12 v13 v14 v15, cs = [v0, v1, v2, v3, v4, v5, v6, v7, v8, .int .i64 r, v10, v11, v12, v13, v14, v15, .int .i64 c, .int .i64 m] := by
  obtain ⟨hl, h9, h16, h17, _⟩ := h
  match cs, hl with
  | [v0, v1, v2, v3, v4, v5, v6, v7, v8, v9, v10, v11, v12, v13, v14, v15, v16, v17], _ =>
    simp only [List.getElem?_cons_succ, List.getElem?_cons_zero, Option.some.injEq] at h9 h16 h17
    subst h9 h16 h17
    exact ⟨v0, v1, v2, v3, v4, v5, v6, v7, v8, v10, v11, v12, v13, v14, v15, rfl⟩

/-- what a round of the law reads -/
abbrev LawS (Bp b o : Nat) (sl v0 v1 v2 v3 v4 v5 v6 v7 v8 v10 v11 v12 v13 v14 v15 : Go.Value) (r c m : Int) (w' : World) : Prop :=
  w'.cell? ⟨Bp, 1, none⟩ = some sl ∧ w'.cell? ⟨b, o, none⟩ = some (v0) ∧ w'.cell? ⟨b, o + 1, none⟩ = some (v1) ∧ w'.cell? ⟨b, o + 2, none⟩ = some (v2) ∧ w'.cell? ⟨b, o + 3, none⟩ = some (v3) ∧ w'.cell? ⟨b, o + 4, none⟩ = some (v4) ∧ w'.cell? ⟨b, o + 5, none⟩ = some (v5) ∧ w'.cell? ⟨b, o + 6, none⟩ = some (v6) ∧ w'.cell? ⟨b, o + 7, none⟩ = some (v7) ∧ w'.cell? ⟨b, o + 8, none⟩ = some (v8) ∧ w'.cell? ⟨b, o + 9, none⟩ = some (.int .i64 r) ∧ w'.cell? ⟨b, o + 10, none⟩ = some (v10) ∧ w'.cell? ⟨b, o + 11, none⟩ = some (v11) ∧ w'.cell? ⟨b, o + 12, none⟩ = some (v12) ∧ w'.cell? ⟨b, o + 13, none⟩ = some (v13) ∧ w'.cell? ⟨b, o + 14, none⟩ = some (v14) ∧ w'.cell? ⟨b, o + 15, none⟩ = some (v15) ∧ w'.cell? ⟨b, o + 16, none⟩ = some (.int .i64 c) ∧ w'.cell? ⟨b, o + 17, none⟩ = some (.int .i64 m)
theorem LawS.keep {Bp b o : Nat} {sl v0 v1 v2 v3 v4 v5 v6 v7 v8 v10 v11 v12 v13 v14 v15 : Go.Value} {r c m : Int} {w w' : World} (hb : Below w.heap.size w w') (h : LawS Bp b o sl v0 v1 v2 v3 v4 v5 v6 v7 v8 v10 v11 v12 v13 v14 v15 r c m w) : LawS Bp b o sl v0 v1 v2 v3 v4 v5 v6 v7 v8 v10 v11 v12 v13 v14 v15 r c m w' := by
  obtain ⟨hp, h0, h1, h2, h3, h4, h5, h6, h7, h8, h9, h10, h11, h12, h13, h14, h15, h16, h17⟩ := h
  exact ⟨(hb.cell (World.block_lt_of_cell? _ _ hp)).trans hp, (hb.cell (World.block_lt_of_cell? _ _ h0)).trans h0, (hb.cell (World.block_lt_of_cell? _ _ h1)).trans h1, (hb.cell (World.block_lt_of_cell? _ _ h2)).trans h2, (hb.cell (World.block_lt_of_cell? _ _ h3)).trans h3, (hb.cell (World.block_lt_of_cell? _ _ h4)).trans h4, (hb.cell (World.block_lt_of_cell? _ _ h5)).trans h5, (hb.cell (World.block_lt_of_cell? _ _ h6)).trans h6, (hb.cell (World.block_lt_of_cell? _ _ h7)).trans h7, (hb.cell (World.block_lt_of_cell? _ _ h8)).trans h8, (hb.cell (World.block_lt_of_cell? _ _ h9)).trans h9, (hb.cell (World.block_lt_of_cell? _ _ h10)).trans h10, (hb.cell (World.block_lt_of_cell? _ _ h11)).trans h11, (hb.cell (World.block_lt_of_cell? _ _ h12)).trans h12, (hb.cell (World.block_lt_of_cell? _ _ h13)).trans h13, (hb.cell (World.block_lt_of_cell? _ _ h14)).trans h14, (hb.cell (World.block_lt_of_cell? _ _ h15)).trans h15, (hb.cell (World.block_lt_of_cell? _ _ h16)).trans h16, (hb.cell (World.block_lt_of_cell? _ _ h17)).trans h17⟩

/-- what the law's last statement reads -/
abbrev BoxS (W0 : World) (Bp : Nat) (v0 v1 v2 v3 : Go.Value) (w' : World) : Prop :=
  w'.cell? ⟨Bp, 0, none⟩ = some v0 ∧ w'.cell? ⟨Bp, 1, none⟩ = some v1 ∧ w'.cell? ⟨Bp, 2, none⟩ = some v2 ∧ w'.cell? ⟨Bp, 3, none⟩ = some v3 ∧ Below W0.heap.size W0 w'
theorem BoxS.keep {W0 : World} {Bp : Nat} {v0 v1 v2 v3 : Go.Value} {w w' : World} (hb : Below w.heap.size w w') (h : BoxS W0 Bp v0 v1 v2 v3 w) : BoxS W0 Bp v0 v1 v2 v3 w' := by
  obtain ⟨h0, h1, h2, h3, h4⟩ := h
  exact ⟨(hb.cell (World.block_lt_of_cell? _ _ h0)).trans h0, (hb.cell (World.block_lt_of_cell? _ _ h1)).trans h1, (hb.cell (World.block_lt_of_cell? _ _ h2)).trans h2, (hb.cell (World.block_lt_of_cell? _ _ h3)).trans h3, h4.trans (hb.mono h4.size)⟩

set_option maxRecDepth 100000 in
set_option maxHeartbeats 16000000 in
theorem kBurdenProjects (p0 p2 p3 : Go.Value) (A : Option Addr) (n cap : Nat) (V : Nat → List Go.Value) (r c m : Nat → Int) (w : World) (hn : n ≤ 30) (hcap : n ≤ cap) (hcap2 : cap ≤ maxLen)
    (hcell : 0 < n → ∃ b off, A = some ⟨b, off, none⟩ ∧ b < w.heap.size ∧ ∀ i, i < n → w.rangeAt b (off + i * 18) (V i) ∧ Svc (V i) (r i) (c i) (m i)) :
    Calls Try.prog 10 #[.agg #[p0, .slice A n cap, p2, p3]] w fun e w' => e = .returned (.bool true) ∧ Below w.heap.size w w' := by
  have HL := Lib.hid hcell
  have hcap' := Lib.hid hcap2
  clear hcell hcap2
  go_enter Try.func10, Try.ntmps10
  go_wp2_with fail
  obtain ⟨W0, hW0⟩ : ∃ W0, W0 = w.alloc (Obj.cells #[p0, .slice A n cap, p2, p3] 58) := ⟨_, rfl⟩
  rw [← hW0]
  have hwb : Below w.heap.size w W0 := by rw [hW0]; exact (Below.refl _ _).alloc (Nat.le_refl _) _
  have hws : w.heap.size < W0.heap.size := by rw [hW0]; simp
  have hb0 : W0.cell? ⟨w.heap.size, 0, none⟩ = some p0 := by rw [hW0, World.cell?_alloc_at _ _ _ _ rfl]; rfl
  have hb1 : W0.cell? ⟨w.heap.size, 1, none⟩ = some (.slice A n cap) := by rw [hW0, World.cell?_alloc_at _ _ _ _ rfl]; rfl
  have hb2 : W0.cell? ⟨w.heap.size, 2, none⟩ = some p2 := by rw [hW0, World.cell?_alloc_at _ _ _ _ rfl]; rfl
  have hb3 : W0.cell? ⟨w.heap.size, 3, none⟩ = some p3 := by rw [hW0, World.cell?_alloc_at _ _ _ _ rfl]; rfl
  have HB0 := Lib.hid hb0
  have HB1 := Lib.hid hb1
  have HB2 := Lib.hid hb2
  have HB3 := Lib.hid hb3
  have HW := Lib.hid hwb
  clear hW0 hb0 hb1 hb2 hb3 hwb
  go_loopw [3] (fun i wr => ∃ (k : Nat), k ≤ n ∧ i = .int .i64 k ∧ Below W0.heap.size W0 wr) (fun i _ => n - (intOf i).toNat)
  case atStart => exact ⟨0, Nat.zero_le _, rfl, Below.refl _ _⟩
  case round =>
    obtain ⟨k, hk, rfl, hbl⟩ := hrel
    have hbp : wr.cell? ⟨w.heap.size, 1, none⟩ = some (.slice A n cap) := (hbl.cell (p := ⟨w.heap.size, 1, none⟩) hws).trans HB1.out
    by_cases hlt : k < n
    · obtain ⟨b, off, rfl, hb, hL⟩ := HL.out (by omega)
      obtain ⟨hS0, hsv⟩ := hL k (by omega)
      have hrange : wr.rangeAt b (off + k * 18) (V k) := fun j v hv =>
        (hbl.cell (p := ⟨b, off + k * 18 + j, none⟩) (by show b < W0.heap.size; omega)).trans ((HW.out.cell (p := ⟨b, off + k * 18 + j, none⟩) hb).trans (hS0 j v hv))
      have KS0 := fun w1 => kService (V k) (c k) (m k) w1 hsv.2.2.1 hsv.2.2.2.1
      obtain ⟨v0, v1, v2, v3, v4, v5, v6, v7, v8, v10, v11, v12, v13, v14, v15, hV⟩ := list18 _ _ _ _ hsv
      rw [hV] at hrange KS0
      have c0 : wr.cell? ⟨b, off + k * 18, none⟩ = some (v0) := hrange 0 _ rfl
      have c1 : wr.cell? ⟨b, off + k * 18 + 1, none⟩ = some (v1) := hrange 1 _ rfl
      have c2 : wr.cell? ⟨b, off + k * 18 + 2, none⟩ = some (v2) := hrange 2 _ rfl
      have c3 : wr.cell? ⟨b, off + k * 18 + 3, none⟩ = some (v3) := hrange 3 _ rfl
      have c4 : wr.cell? ⟨b, off + k * 18 + 4, none⟩ = some (v4) := hrange 4 _ rfl
      have c5 : wr.cell? ⟨b, off + k * 18 + 5, none⟩ = some (v5) := hrange 5 _ rfl
      have c6 : wr.cell? ⟨b, off + k * 18 + 6, none⟩ = some (v6) := hrange 6 _ rfl
      have c7 : wr.cell? ⟨b, off + k * 18 + 7, none⟩ = some (v7) := hrange 7 _ rfl
      have c8 : wr.cell? ⟨b, off + k * 18 + 8, none⟩ = some (v8) := hrange 8 _ rfl
      have c9 : wr.cell? ⟨b, off + k * 18 + 9, none⟩ = some (.int .i64 (r k)) := hrange 9 _ rfl
      have c10 : wr.cell? ⟨b, off + k * 18 + 10, none⟩ = some (v10) := hrange 10 _ rfl
      have c11 : wr.cell? ⟨b, off + k * 18 + 11, none⟩ = some (v11) := hrange 11 _ rfl
      have c12 : wr.cell? ⟨b, off + k * 18 + 12, none⟩ = some (v12) := hrange 12 _ rfl
      have c13 : wr.cell? ⟨b, off + k * 18 + 13, none⟩ = some (v13) := hrange 13 _ rfl
      have c14 : wr.cell? ⟨b, off + k * 18 + 14, none⟩ = some (v14) := hrange 14 _ rfl
      have c15 : wr.cell? ⟨b, off + k * 18 + 15, none⟩ = some (v15) := hrange 15 _ rfl
      have c16 : wr.cell? ⟨b, off + k * 18 + 16, none⟩ = some (.int .i64 (c k)) := hrange 16 _ rfl
      have c17 : wr.cell? ⟨b, off + k * 18 + 17, none⟩ = some (.int .i64 (m k)) := hrange 17 _ rfl
      have hi0 : (0 : Int) ≤ (k : Int) := by omega
      have hi1 : (k : Int) < (n : Int) := by omega
      have hbz : b < wr.heap.size := by have := hbl.size; omega
      have hwz : w.heap.size < wr.heap.size := by have := hbl.size; omega
      have KS := Lib.hid KS0
      have L2 := Lib.hid (fun w1 => kRefOf (c k) (m k) w1)
      have K4 := Lib.hid (fun w1 => kIs (nearM (c k)) (nearM (m k)) w1 (by have := nearM_bd (c k); omega) (by have := nearM_bd (c k); omega) (by have := nearM_bd (m k); omega) (by have := nearM_bd (m k); omega))
      generalize nearM (c k) = cc at *
      generalize nearM (m k) = mm at *
      clear hL hS0 hsv KS0 hV hrange
      have hS : LawS w.heap.size b (off + k * 18) (.slice (some ⟨b, off, none⟩) n cap) v0 v1 v2 v3 v4 v5 v6 v7 v8 v10 v11 v12 v13 v14 v15 (r k) (c k) (m k) wr := ⟨hbp, c0, c1, c2, c3, c4, c5, c6, c7, c8, c9, c10, c11, c12, c13, c14, c15, c16, c17⟩
      have hSd : LawS w.heap.size b (off + k * 18) (.slice (some ⟨b, off, none⟩) n cap) v0 v1 v2 v3 v4 v5 v6 v7 v8 v10 v11 v12 v13 v14 v15 (r k) (c k) (m k) wr.drew := hS
      go_wp2_with fail
      go_region_held3 (fun w' => w'.cell? ⟨w.heap.size, 1, none⟩ = some (.slice (some ⟨b, off, none⟩) n cap) ∧ w'.cell? ⟨b, off + k * 18, none⟩ = some (v0) ∧ w'.cell? ⟨b, off + k * 18 + 1, none⟩ = some (v1) ∧ w'.cell? ⟨b, off + k * 18 + 2, none⟩ = some (v2) ∧ w'.cell? ⟨b, off + k * 18 + 3, none⟩ = some (v3) ∧ w'.cell? ⟨b, off + k * 18 + 4, none⟩ = some (v4) ∧ w'.cell? ⟨b, off + k * 18 + 5, none⟩ = some (v5) ∧ w'.cell? ⟨b, off + k * 18 + 6, none⟩ = some (v6) ∧ w'.cell? ⟨b, off + k * 18 + 7, none⟩ = some (v7) ∧ w'.cell? ⟨b, off + k * 18 + 8, none⟩ = some (v8) ∧ w'.cell? ⟨b, off + k * 18 + 9, none⟩ = some (.int .i64 (r k)) ∧ w'.cell? ⟨b, off + k * 18 + 10, none⟩ = some (v10) ∧ w'.cell? ⟨b, off + k * 18 + 11, none⟩ = some (v11) ∧ w'.cell? ⟨b, off + k * 18 + 12, none⟩ = some (v12) ∧ w'.cell? ⟨b, off + k * 18 + 13, none⟩ = some (v13) ∧ w'.cell? ⟨b, off + k * 18 + 14, none⟩ = some (v14) ∧ w'.cell? ⟨b, off + k * 18 + 15, none⟩ = some (v15) ∧ w'.cell? ⟨b, off + k * 18 + 16, none⟩ = some (.int .i64 (c k)) ∧ w'.cell? ⟨b, off + k * 18 + 17, none⟩ = some (.int .i64 (m k)))
        (first
          | exact hc5
          | exact hc4
          | exact hc3
          | exact hSd)
        (first
          | (go_at_call 46; go_must (refine (keepP (S := LawS w.heap.size b (off + k * 18) (.slice (some ⟨b, off, none⟩) n cap) v0 v1 v2 v3 v4 v5 v6 v7 v8 v10 v11 v12 v13 v14 v15 (r k) (c k) (m k)) (KS.out _) (fun _ hb' hs' => LawS.keep hb' hs') hSd).mono ?_); go_must (rintro e w3 ⟨rfl, hb3, hc3⟩))
          | (go_at_call 28; go_must (refine (keepP (S := LawS w.heap.size b (off + k * 18) (.slice (some ⟨b, off, none⟩) n cap) v0 v1 v2 v3 v4 v5 v6 v7 v8 v10 v11 v12 v13 v14 v15 (r k) (c k) (m k)) (L2.out _) (fun _ hb' hs' => LawS.keep hb' hs') hc3).mono ?_); go_must (rintro e w4 ⟨rfl, hb4, hc4⟩))
          | (go_at_call 29; go_must (refine (keepP (S := LawS w.heap.size b (off + k * 18) (.slice (some ⟨b, off, none⟩) n cap) v0 v1 v2 v3 v4 v5 v6 v7 v8 v10 v11 v12 v13 v14 v15 (r k) (c k) (m k)) (K4.out _) (fun _ hb' hs' => LawS.keep hb' hs') hc4).mono ?_); go_must (rintro e w5 ⟨rfl, hb5, hc5⟩)))
      all_goals
        go_wp2_with fail
        go_roundw
        case rel => exact ⟨k + 1, by omega, by go_num, ((hbl.drew.trans (hb3.mono hbl.drew.size)).trans (hb4.mono (hbl.drew.trans (hb3.mono hbl.drew.size)).size)).trans (hb5.mono ((hbl.drew.trans (hb3.mono hbl.drew.size)).trans (hb4.mono (hbl.drew.trans (hb3.mono hbl.drew.size)).size)).size)⟩
        case measure => simp [intOf]; omega
    · have hkn : ¬ k < n := hlt
      have hc : ∀ w1, Below W0.heap.size W0 w1 → 0 < n → ∃ b off, A = some ⟨b, off, none⟩ ∧ b < w1.heap.size ∧ ∀ i, i < n → w1.rangeAt b (off + i * 18) (V i) ∧ Svc (V i) (r i) (c i) (m i) := fun w1 hb1 h0 => by
        obtain ⟨b, off, hA, hb, hL⟩ := HL.out h0
        have hbw : Below w.heap.size w w1 := HW.out.trans (hb1.mono (by omega))
        exact ⟨b, off, hA, Nat.lt_of_lt_of_le hb hbw.size, fun i hi => ⟨rangeAt_below (hL i hi).1 hbw, (hL i hi).2⟩⟩
      obtain ⟨N, hN⟩ : ∃ N, (n ≤ 16 ∧ n = N) ∨ (16 < n ∧ N = 16) := by
        by_cases h : n ≤ 16
        · exact ⟨n, .inl ⟨h, rfl⟩⟩
        · exact ⟨16, .inr ⟨by omega, rfl⟩⟩
      have b1 := prj_bd c r (k := N) (by omega)
      have b2 := prj_bd m r (k := N) (by omega)
      obtain ⟨x, hx⟩ : ∃ x, prj c r N = x := ⟨_, rfl⟩
      obtain ⟨y, hy⟩ : ∃ y, prj m r N = y := ⟨_, rfl⟩
      rw [hx] at b1
      rw [hy] at b2
      have KP := Lib.hid (fun w1 hb1 => kProject p0 p2 p3 A n cap V r c m w1 (by omega) hcap hcap'.out (hc w1 hb1) N hN x y hx hy)
      have KR := Lib.hid (fun w1 hb1 => kRefProject p0 p2 p3 A n cap V r c m w1 (by omega) (hc w1 hb1) N (by omega) (by omega) (by omega) x y hx hy)
      have KI := Lib.hid (fun w1 => kIs x y w1 (by omega) (by omega) (by omega) (by omega))
      have hS : BoxS W0 w.heap.size p0 (.slice A n cap) p2 p3 wr := ⟨(hbl.cell (p := ⟨w.heap.size, 0, none⟩) hws).trans HB0.out, hbp, (hbl.cell (p := ⟨w.heap.size, 2, none⟩) hws).trans HB2.out, (hbl.cell (p := ⟨w.heap.size, 3, none⟩) hws).trans HB3.out, hbl⟩
      have hSd : BoxS W0 w.heap.size p0 (.slice A n cap) p2 p3 wr.drew := ⟨hS.1, hS.2.1, hS.2.2.1, hS.2.2.2.1, hbl.drew⟩
      have hb0 := hS.1
      have hb2 := hS.2.2.1
      have hb3 := hS.2.2.2.1
      clear hc hN hx hy HL HB0 HB1 HB2 HB3 b1 b2 hcap
      go_wp2_with fail
      go_region_held3 (fun w' => w'.cell? ⟨w.heap.size, 0, none⟩ = some p0 ∧ w'.cell? ⟨w.heap.size, 1, none⟩ = some (.slice A n cap) ∧ w'.cell? ⟨w.heap.size, 2, none⟩ = some p2 ∧ w'.cell? ⟨w.heap.size, 3, none⟩ = some p3 ∧ Below W0.heap.size W0 w')
        (first
          | exact hc6
          | exact hc5
          | exact hc4
          | exact hc3
          | exact hSd)
        (first
          | (go_at_call 47; go_must (refine (keepP (S := BoxS W0 w.heap.size p0 (.slice A n cap) p2 p3) (KP.out _ hbl.drew) (fun _ hb' hs' => BoxS.keep hb' hs') hSd).mono ?_); go_must (rintro e w3 ⟨rfl, hb3, hc3⟩))
          | (go_at_call 48; go_must (refine (keepP (S := BoxS W0 w.heap.size p0 (.slice A n cap) p2 p3) (KR.out _ hc3.2.2.2.2) (fun _ hb' hs' => BoxS.keep hb' hs') hc3).mono ?_); go_must (rintro e w4 ⟨rfl, hb4, hc4⟩))
          | (go_at_call 29; go_must (refine (keepP (S := BoxS W0 w.heap.size p0 (.slice A n cap) p2 p3) (KI.out _) (fun _ hb' hs' => BoxS.keep hb' hs') hc4).mono ?_); go_must (rintro e w5 ⟨rfl, hb5, hc5⟩))
          | (go_at_call 26; go_must (refine (keepP (S := BoxS W0 w.heap.size p0 (.slice A n cap) p2 p3) (kAwake28 _) (fun _ hb' hs' => BoxS.keep hb' hs') hc5).mono ?_); go_must (rintro e w6 ⟨rfl, hb6, hc6⟩)))
      all_goals
        go_wp2_with fail
        go_ret
        exact ⟨rfl, HW.out.trans (hc6.2.2.2.2.mono (by omega))⟩

theorem kBurdenProjectsMany (p0 p2 p3 : Go.Value) (A : Option Addr) (n cap : Nat) (w : World) (hn : 30 < n) (hn2 : n ≤ maxLen) :
    Calls Try.prog 10 #[.agg #[p0, .slice A n cap, p2, p3]] w fun e w' => e = .returned (.bool true) ∧ Below w.heap.size w w' := by
  unfold maxLen at hn2
  go_enter Try.func10, Try.ntmps10
  go_wp2_with fail
  refine (kAwake28 _).mono ?_
  rintro e w1 ⟨rfl, hb1⟩
  go_wp2_with fail
  go_ret
  exact ⟨rfl, ((Below.refl _ _).alloc (Nat.le_refl _) _).trans (hb1.mono (by simp))⟩
end Go.Proofs.Ytglihjdbbpohlaa.W
