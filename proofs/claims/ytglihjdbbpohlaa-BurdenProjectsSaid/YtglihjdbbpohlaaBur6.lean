/- The walk of BurdenProjects. -/
import Derived.Test.YtglihjdbbpohlaaBur5
namespace Go.Proofs.Ytglihjdbbpohlaa.W
open Go.RowKit Go.Proofs.Ytglihjdbbpohlaa.Pl

theorem bcell6 {W w1 : World} (hb : Below W.heap.size W w1) : (∀ b o, b < W.heap.size → w1.cell? ⟨b, o, none⟩ = W.cell? ⟨b, o, none⟩) ∧ (∀ b o, b < W.heap.size → w1.frozen? ⟨b, o, none⟩ = W.frozen? ⟨b, o, none⟩) :=
  ⟨fun b o h => hb.cell (p := ⟨b, o, none⟩) h, fun b o h => hb.frozen (p := ⟨b, o, none⟩) h⟩
theorem keepP {P : Program} {f : FuncId} {args : Array Go.Value} {w : World} {v : Go.Value} {S : World → Prop} (h : Calls P f args w fun e w' => e = .returned v ∧ Below w.heap.size w w') (hp : ∀ w', Below w.heap.size w w' → S w → S w') (hs : S w) :
    Calls P f args w fun e w' => e = .returned v ∧ Below w.heap.size w w' ∧ S w' := h.mono fun _ _ ⟨he, hb⟩ => ⟨he, hb, hp _ hb hs⟩
theorem rangeAt_below {w w' : World} {b o : Nat} {cs : List Go.Value} (h : w.rangeAt b o cs) (hb : Below w.heap.size w w') : w'.rangeAt b o cs := fun j v hv =>
  (hb.cell (p := ⟨b, o + j, none⟩) (World.block_lt_of_cell? w ⟨b, o + j, none⟩ (h j v hv))).trans (h j v hv)
/-- what a round of the reference reads -/
abbrev RefS (Bp b o n cap : Nat) (b0 off0 : Nat) (c m : Int) (w' : World) : Prop :=
  w'.cell? ⟨Bp, 1, none⟩ = some (.slice (some ⟨b0, off0, none⟩) n cap) ∧ w'.cell? ⟨b, o + 16, none⟩ = some (.int .i64 c) ∧ w'.cell? ⟨b, o + 17, none⟩ = some (.int .i64 m)
theorem RefS.keep {Bp b o n cap b0 off0 : Nat} {c m : Int} {w w' : World} (hb : Below w.heap.size w w') (h : RefS Bp b o n cap b0 off0 c m w) : RefS Bp b o n cap b0 off0 c m w' :=
  ⟨(hb.cell (World.block_lt_of_cell? _ _ h.1)).trans h.1, (hb.cell (World.block_lt_of_cell? _ _ h.2.1)).trans h.2.1, (hb.cell (World.block_lt_of_cell? _ _ h.2.2)).trans h.2.2⟩
/-- what a round of the reference leaves behind its first statement -/
def AfterOne (w W0 wx : World) (Bp Bo Br B5 : Nat) (sl : Go.Value) (u v c m : Int) (T : TypeId) : Prop :=
  wx.cell? ⟨B5, 0, none⟩ = some (.int .i64 c) ∧ wx.cell? ⟨B5, 1, none⟩ = some (.int .i64 m) ∧ W0.heap.size ≤ B5 ∧ wx.cell? ⟨Bp, 1, none⟩ = some sl ∧ wx.rowIs Bo T 2 (two u v) ∧ wx.rowIs Br T 2 (two 0 0) ∧ Below w.heap.size w wx ∧ W0.heap.size ≤ wx.heap.size
theorem two_set6 {w : World} {B : Nat} {T : TypeId} {u v x y u' v' : Int} (h : w.rowIs B T 2 (two u v)) (hx : x = u') (hy : y = v') :
    ((w.setCell ⟨B, 0, none⟩ (.int .i64 x)).setCell ⟨B, 1, none⟩ (.int .i64 y)).rowIs B T 2 (two u' v') := by
  have h2 := (h.set 0 (.int .i64 x)).set 1 (.int .i64 y)
  subst hx hy
  refine h2.congr fun i hi => ?_
  rcases (show i = 0 ∨ i = 1 by omega) with rfl | rfl <;> rfl
theorem one_way1 {w W0 V w3 : World} {Bp Bo Br : Nat} {sl : Go.Value} {u v c m : Int} {T : TypeId} (hb3 : Below V.heap.size V w3) (hbV : Below w.heap.size w V) (hz : W0.heap.size ≤ V.heap.size) (hbp : V.cell? ⟨Bp, 1, none⟩ = some sl) (hO : V.rowIs Bo T 2 (two u v)) (hR : V.rowIs Br T 2 (two 0 0)) :
    AfterOne w W0 (w3.alloc (.cells #[.int .i64 c, .int .i64 m] T)) Bp Bo Br w3.heap.size sl u v c m T := by
  have hlt := World.block_lt_of_cell? _ _ hbp
  have hlt3 : Bp < w3.heap.size := Nat.lt_of_lt_of_le hlt hb3.size
  refine ⟨by rw [World.cell?_alloc_at _ _ _ _ rfl]; rfl, by rw [World.cell?_alloc_at _ _ _ _ rfl]; rfl, Nat.le_trans hz hb3.size, ?_, (hO.of_block (hb3.block _ hO.lt)).alloc _, (hR.of_block (hb3.block _ hR.lt)).alloc _, ?_, ?_⟩
  · rw [World.cell?_alloc_past _ _ _ hlt3]; exact (hb3.cell (p := ⟨Bp, 1, none⟩) hlt).trans hbp
  · exact (hbV.trans (hb3.mono hbV.size)).alloc (Nat.le_trans hbV.size hb3.size) _
  · have := hb3.size; simp; omega
theorem one_way2 {w W0 V w3 : World} {Bp Bo Br B5 : Nat} {sl : Go.Value} {u v c m : Int} {T : TypeId} (hb3 : Below V.heap.size V w3) (hbV : Below w.heap.size w V) (hz : W0.heap.size ≤ V.heap.size) (hbp : V.cell? ⟨Bp, 1, none⟩ = some sl) (hO : V.rowIs Bo T 2 (two u v)) (hR : V.rowIs Br T 2 (two 0 0))
    (h5 : V.rowIs B5 T 2 (two 0 0)) (hW : W0.heap.size ≤ B5) (hw : w.heap.size ≤ B5) (n1 : Bp ≠ B5) (n2 : Bo ≠ B5) (n3 : Br ≠ B5) :
    AfterOne w W0 ((w3.setCell ⟨B5, 0, none⟩ (.int .i64 c)).setCell ⟨B5, 1, none⟩ (.int .i64 m)) Bp Bo Br B5 sl u v c m T := by
  have hlt := World.block_lt_of_cell? _ _ hbp
  have h3 := h5.of_block (hb3.block _ h5.lt)
  have h4 := (h3.set 0 (.int .i64 c)).set 1 (.int .i64 m)
  refine ⟨(h4.cell (i := 0) (by omega)).trans rfl, (h4.cell (i := 1) (by omega)).trans rfl, hW, ?_, ((hO.of_block (hb3.block _ hO.lt)).setOther n2 _).setOther n2 _, ((hR.of_block (hb3.block _ hR.lt)).setOther n3 _).setOther n3 _, ?_, ?_⟩
  · rw [World.cell?_setCell_far _ _ _ _ (by exact Ne.symm n1), World.cell?_setCell_far _ _ _ _ (by exact Ne.symm n1)]; exact (hb3.cell (p := ⟨Bp, 1, none⟩) hlt).trans hbp
  · exact ((hbV.trans (hb3.mono hbV.size)).setCell hw _).setCell hw _
  · have := hb3.size; simp [World.setCell]; omega

set_option maxRecDepth 100000 in
set_option maxHeartbeats 8000000 in
theorem kRefProject (p0 p2 p3 : Go.Value) (A : Option Addr) (n cap : Nat) (V : Nat → List Go.Value) (r c m : Nat → Int) (w : World) (hn : n ≤ 1000)
    (hcell : 0 < n → ∃ b off, A = some ⟨b, off, none⟩ ∧ b < w.heap.size ∧ ∀ i, i < n → w.rangeAt b (off + i * 18) (V i) ∧ Svc (V i) (r i) (c i) (m i)) (M : Nat) (hMn : M ≤ n) (hM16 : M ≤ 16) (hM : n ≤ M ∨ 16 ≤ M) (x y : Int) (hx : prj c r M = x) (hy : prj m r M = y) :
    Calls Try.prog 48 #[.agg #[p0, .slice A n cap, p2, p3]] w fun e w' => e = .returned (.agg #[.int .i64 x, .int .i64 y]) ∧ Below w.heap.size w w' := by
  have HL := Lib.hid hcell
  have HX := Lib.hid hx
  have HY := Lib.hid hy
  clear hx hy hcell
  go_enter Try.func48, Try.ntmps48
  go_wp2_with fail
  obtain ⟨W0, hW0⟩ : ∃ W0, W0 = ((w.alloc (Obj.cells #[p0, .slice A n cap, p2, p3] 58)).alloc (Obj.cells #[.int .i64 0, .int .i64 0] 38)).alloc (Obj.cells #[.int .i64 0, .int .i64 0] 38) := ⟨_, rfl⟩
  rw [← hW0]
  have hwb : Below w.heap.size w W0 := by rw [hW0]; exact (((Below.refl _ _).alloc (Nat.le_refl _) _).alloc (by simp) _).alloc (by simp; omega) _
  have hws : W0.heap.size = w.heap.size + 3 := by rw [hW0]; simp
  have hbx : W0.cell? ⟨w.heap.size, 1, none⟩ = some (.slice A n cap) := by
    rw [hW0, World.cell?_alloc_past _ _ _ (by simp; omega), World.cell?_alloc_past _ _ _ (by simp), World.cell?_alloc_at _ _ _ _ rfl]; rfl
  have hz2 : ∀ i, i < 2 → (#[.int .i64 0, .int .i64 0] : Array Go.Value)[i]? = some (two 0 0 i) := fun i hi => by rcases (show i = 0 ∨ i = 1 by omega) with rfl | rfl <;> rfl
  have hro : W0.rowIs (w.heap.size + 2) 38 2 (two 0 0) := by
    rw [hW0]
    have := World.rowIs_alloc ((w.alloc (Obj.cells #[p0, .slice A n cap, p2, p3] 58)).alloc (Obj.cells #[.int .i64 0, .int .i64 0] 38)) #[.int .i64 0, .int .i64 0] 38 (two 0 0) hz2
    simpa using this
  have hrr : W0.rowIs (w.heap.size + 1) 38 2 (two 0 0) := by
    rw [hW0]
    have := (World.rowIs_alloc (w.alloc (Obj.cells #[p0, .slice A n cap, p2, p3] 58)) #[.int .i64 0, .int .i64 0] 38 (two 0 0) hz2).alloc (Obj.cells #[.int .i64 0, .int .i64 0] 38)
    simpa using this
  have hsz0 : w.heap.size + 3 ≤ W0.heap.size := by omega
  have HBx := Lib.hid hbx
  have HRo := Lib.hid hro
  have HRr := Lib.hid hrr
  clear hW0 hbx hz2 hro hrr hws
  go_loopw [4] (fun i wr => ∃ (k : Nat), k ≤ M ∧ i = .int .i64 k ∧ Hid (wr.cell? ⟨w.heap.size, 1, none⟩ = some (.slice A n cap)) ∧ Hid (wr.rowIs (w.heap.size + 2) 38 2 (two (prj c r k) (prj m r k))) ∧ Hid (wr.rowIs (w.heap.size + 1) 38 2 (two 0 0)) ∧ Below w.heap.size w wr ∧ W0.heap.size ≤ wr.heap.size) (fun i _ => M - (intOf i).toNat)
  case atStart => exact ⟨0, Nat.zero_le _, rfl, HBx, HRo, HRr, hwb, Nat.le_refl _⟩
  case round =>
    obtain ⟨k, hk, rfl, HB, HO, HR, hbl, hsz⟩ := hrel
    by_cases hlt : k < M
    · obtain ⟨b, off, rfl, hb, hL⟩ := HL.out (by omega)
      obtain ⟨hS0, hlen18, h9, h16', h17, hone⟩ := hL k (by omega)
      have hc9 : wr.cell? ⟨b, off + k * 18 + 9, none⟩ = some (.int .i64 (r k)) := (hbl.cell (p := ⟨b, off + k * 18 + 9, none⟩) hb).trans (hS0 9 _ h9)
      have hc16 : wr.cell? ⟨b, off + k * 18 + 16, none⟩ = some (.int .i64 (c k)) := (hbl.cell (p := ⟨b, off + k * 18 + 16, none⟩) hb).trans (hS0 16 _ h16')
      have hc17 : wr.cell? ⟨b, off + k * 18 + 17, none⟩ = some (.int .i64 (m k)) := (hbl.cell (p := ⟨b, off + k * 18 + 17, none⟩) hb).trans (hS0 17 _ h17)
      have H9 := Lib.hid (hS0 9 _ h9)
      have hi0 : (0 : Int) ≤ (k : Int) := by omega
      have hi1 : (k : Int) < (n : Int) := by omega
      have hbp : wr.cell? ⟨w.heap.size, 1, none⟩ = some (.slice (some ⟨b, off, none⟩) n cap) := HB.out
      have L2 := Lib.hid (fun w1 => kRefOf (c k) (m k) w1)
      have hs1 := Lib.hid (prj_succ c r k)
      have hs2 := Lib.hid (prj_succ m r k)
      have b1 := prj_bd c r (k := k) (by omega)
      have b2 := prj_bd m r (k := k) (by omega)
      have b3 := rep_near_bd (r k) (c k)
      have b4 := rep_near_bd (r k) (m k)
      have K6 := Lib.hid (fun w1 => kRefNear28 (r k) 8 w1 (reps (r k) : Int) (by unfold reps; split; omega; split <;> omega))
      obtain ⟨R, hR⟩ : ∃ R, reps (r k) = R := ⟨_, rfl⟩
      have hR8 := reps_le (r k)
      rw [hR] at hs1 hs2 b3 b4 K6 hR8
      generalize nearM (c k) = c1 at *
      generalize nearM (m k) = m1 at *
      generalize prj c r k = u at *
      generalize prj m r k = v at *
      have hn1 : ¬ w.heap.size = wr.heap.size := by omega
      have hn2 : ¬ wr.heap.size = w.heap.size := by omega
      have hn3 : ¬ b = wr.heap.size := by omega
      have hn4 : ¬ wr.heap.size = b := by omega
      clear hL hS0 h9 h16' h17 hone hlen18 hR
      go_upto_region 5 with fail
      go_cut [5] (fun s5 wx => ∃ B5 : Nat, s5 = .pointer (some ⟨B5, 0, none⟩) ∧ AfterOne w W0 wx w.heap.size (w.heap.size + 2) (w.heap.size + 1) B5 (.slice (some ⟨b, off, none⟩) n cap) u v c1 m1 38)
      case first =>
        go_region_held3 (fun w' => w'.cell? ⟨w.heap.size, 1, none⟩ = some (.slice (some ⟨b, off, none⟩) n cap) ∧ w'.cell? ⟨b, off + k * 18 + 16, none⟩ = some (.int .i64 (c k)) ∧ w'.cell? ⟨b, off + k * 18 + 17, none⟩ = some (.int .i64 (m k)))
          (first
            | go_keep)
          (first
            | (go_at_call 28; refine (keepP (S := RefS w.heap.size b (off + k * 18) n cap b off (c k) (m k)) (L2.out _) (fun _ hb' hs' => RefS.keep hb' hs') (by assumption)).mono ?_; rintro e w3 ⟨rfl, hb3, hc5, hc6, hc7⟩; obtain ⟨hcc, hff⟩ := bcell6 hb3))
        all_goals
          go_wp2_with fail
          go_meet
          first
            | exact ⟨w3.heap.size, rfl, one_way1 hb3 (hbl.drew) hsz hbp HO.out HR.out⟩
            | (refine ⟨wr.heap.size, rfl, one_way2 hb3 ?_ ?_ ?_ ?_ ?_ ?_ ?_ ?_ ?_ ?_ ?_⟩
               · exact (hbl.drew).alloc (by first | omega | (simp; omega)) _
               · first | omega | (simp; omega)
               · exact (World.cell?_alloc_past _ _ _ (by first | omega | (simp; omega))).trans hbp
               · exact HO.out.drew.alloc _
               · exact HR.out.drew.alloc _
               · exact World.rowIs_alloc _ #[.int .i64 0, .int .i64 0] _ (two 0 0) (fun i hi => by have hi' : i < 2 := hi; rcases (show i = 0 ∨ i = 1 by omega) with rfl | rfl <;> rfl)
               · exact hsz
               · omega
               · omega
               · omega
               · omega)
      case rest =>
        obtain ⟨B5, rfl, hA⟩ := hcut
        obtain ⟨hm1, hm2, hB5, hbp2, hO2, hR2, hbl2, hsz2⟩ := hA
        have hc9' : wc.cell? ⟨b, off + k * 18 + 9, none⟩ = some (.int .i64 (r k)) := (hbl2.cell (p := ⟨b, off + k * 18 + 9, none⟩) hb).trans H9.out
        have d1 : wc.cell? ⟨w.heap.size + 2, 0, none⟩ = some (.int .i64 u) := hO2.cell (i := 0) (by omega)
        have d2 : wc.cell? ⟨w.heap.size + 2, 1, none⟩ = some (.int .i64 v) := hO2.cell (i := 1) (by omega)
        have d3 := hO2.frozen 0
        have d4 := hO2.frozen 1
        have hn5 : ¬ w.heap.size + 2 = B5 := by omega
        have hn6 : ¬ B5 = w.heap.size + 2 := by omega
        have HO2 := Lib.hid hO2
        have HR2 := Lib.hid hR2
        have HBP2 := Lib.hid hbp2
        clear hc9 hc16 hc17 H9 L2 HB HO HR hO2 hR2 hbl hsz hbp hn1 hn2 hn3 hn4
        go_wp2_with fail
        refine (K6.out _).mono ?_
        rintro e w4 ⟨rfl, rfl⟩
        go_wp2_with fail
        have HO3 := two_set6 (w := wc) (B := w.heap.size + 2) (x := u + (R : Int) * c1) (y := v + (R : Int) * m1) HO2.out hs1.out.symm hs2.out.symm
        have HR3 := ((HR2.out.setOther (a := ⟨w.heap.size + 2, 0, none⟩) (by simp) (.int .i64 (u + (R : Int) * c1))).setOther (a := ⟨w.heap.size + 2, 1, none⟩) (by simp) (.int .i64 (v + (R : Int) * m1)))
        have HB3 : ((wc.setCell ⟨w.heap.size + 2, 0, none⟩ (.int .i64 (u + (R : Int) * c1))).setCell ⟨w.heap.size + 2, 1, none⟩ (.int .i64 (v + (R : Int) * m1))).cell? ⟨w.heap.size, 1, none⟩ = some (.slice (some ⟨b, off, none⟩) n cap) := by
          rw [World.cell?_setCell_far _ _ _ _ (by simp), World.cell?_setCell_far _ _ _ _ (by simp)]; exact HBP2.out
        go_roundw
        case rel => exact ⟨k + 1, by omega, by go_num, Lib.hid HB3, Lib.hid HO3, Lib.hid HR3, (hbl2.setCell (by simp; omega) _).setCell (by simp; omega) _, by simpa [World.setCell] using hsz2⟩
        case measure => simp [intOf]; omega
    · have hkM : k = M := by omega
      have hbp : wr.cell? ⟨w.heap.size, 1, none⟩ = some (.slice A n cap) := HB.out
      have d3 : wr.cell? ⟨w.heap.size + 2, 0, none⟩ = some (.int .i64 (prj c r k)) := HO.out.cell (i := 0) (by omega)
      have d4 : wr.cell? ⟨w.heap.size + 2, 1, none⟩ = some (.int .i64 (prj m r k)) := HO.out.cell (i := 1) (by omega)
      have d7 : wr.cell? ⟨w.heap.size + 1, 0, none⟩ = some (.int .i64 0) := HR.out.cell (i := 0) (by omega)
      have d8 : wr.cell? ⟨w.heap.size + 1, 1, none⟩ = some (.int .i64 0) := HR.out.cell (i := 1) (by omega)
      have d5 := HR.out.frozen 0
      have d6 := HR.out.frozen 1
      have hx1 : prj c r k = x := by rw [hkM]; exact HX.out
      have hy1 : prj m r k = y := by rw [hkM]; exact HY.out
      have HX1 := Lib.hid hx1
      have HY1 := Lib.hid hy1
      have hM2 : n ≤ k ∨ (k < n ∧ 16 ≤ k) := by omega
      clear hkM hx1 hy1 hM
      rcases hM2 with hM | ⟨hM, hM2⟩
      all_goals
        go_wp2_with fail
        have r1 := HR.out.set 0 (.int .i64 (prj c r k))
        have r2 := r1.set 1 (.int .i64 (prj m r k))
        have f2 := r2.cell (i := 0) (by omega)
        have f3 := r2.cell (i := 1) (by omega)
        simp only [if_true] at f2 f3
        rw [if_neg (by omega)] at f2
        refine bodyPost_ret (v := .agg #[.int .i64 (prj c r k), .int .i64 (prj m r k)]) (by simp [results, Try.results48, go_sem, f2, f3]) rfl ⟨ret_ag2 HX1.out HY1.out, ?_⟩
        exact (hbl.setCell (by simp) _).setCell (by simp) _
end Go.Proofs.Ytglihjdbbpohlaa.W
