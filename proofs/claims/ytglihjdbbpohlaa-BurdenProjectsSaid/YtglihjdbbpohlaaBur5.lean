/- Contracts of the burdens of a project. -/
import Derived.Test.YtglihjdbbpohlaaBur2
import Derived.Test.YtglihjdbbpohlaaPlPr
import Derived.Deep.AppendLies
import Derived.Deep.RegionHeld3
import Derived.OwnWalk
import Derived.Deep.MidRow
import Derived.Deep.DeepCutAuto
namespace Go.Proofs.Ytglihjdbbpohlaa.W
open Go.RowKit Go.Proofs.Ytglihjdbbpohlaa.Pl

theorem infoC5 : (Try.prog.info? 36).map (fun i => (i.zero, i.size, i.bytes)) = some (some (.complex .f64 0 0), 1, 16) := by kernel_rfl
theorem quiet5 {P : Program} {f : FuncId} {args : Array Go.Value} {w : World} {n : Nat} {v : Go.Value}
    (h : Calls P f args (w.drewN n) fun e w' => e = .returned v ∧ w.drewN n = w') : Calls P f args (w.drewN n) fun e w'' => e = .returned v ∧ ∃ m, w'' = w.drewN m :=
  h.mono fun _ _ ⟨he, hm⟩ => ⟨he, n, hm.symm⟩
theorem below_drewN5 {B : Nat} {a w : World} (h : Below B a w) (n : Nat) : Below B a (w.drewN n) := ⟨h.os, h.tape, h.output, h.size, h.block⟩
theorem kService (cs : List Go.Value) (c m : Int) (w : World) (h16 : cs[16]? = some (.int .i64 c)) (h17 : cs[17]? = some (.int .i64 m)) :
    Calls Try.prog 46 #[.agg cs.toArray] w fun e w' => e = .returned (.complex .f64 (floatOfInt .f64 (nearM c)) (floatOfInt .f64 (nearM m))) ∧ Below w.heap.size w w' := by
  have K1 := Lib.hid (fun w1 => kOf c m w1)
  have f1 : (w.alloc (.cells cs.toArray 67)).cell? ⟨w.heap.size, 16, none⟩ = some (.int .i64 c) := by rw [World.cell?_alloc_at _ _ _ _ rfl]; simpa using h16
  have f2 : (w.alloc (.cells cs.toArray 67)).cell? ⟨w.heap.size, 17, none⟩ = some (.int .i64 m) := by rw [World.cell?_alloc_at _ _ _ _ rfl]; simpa using h17
  have HB := Lib.hid (((Below.refl w.heap.size w).alloc (Nat.le_refl _) (.cells cs.toArray 67)))
  generalize nearM c = x at *
  generalize nearM m = y at *
  clear h16 h17
  go_enter Try.func46, Try.ntmps46
  go_wp2_with fail
  refine (K1.out _).mono ?_
  rintro e w1 ⟨rfl, rfl⟩
  go_wp2_with fail
  go_ret
  exact ⟨rfl, HB.out⟩

def cxp (x : Int × Int) : Go.Value := .complex .f64 (floatOfInt .f64 x.1) (floatOfInt .f64 x.2)
theorem own_below5 {w w' : World} {base : Nat} {e : TypeId} {size n : Nat} {v : Go.Value} {xs : List Go.Value} (h : w.ownsRow base e size v n xs) (hb : Below w.heap.size w w') : w'.ownsRow base e size v n xs := by
  refine h.kept (row := none) ⟨hb.os, hb.tape, hb.output, hb.size, fun i hi _ => hb.block i hi⟩ ?_
  cases v.ownBlock with
  | none => exact .inl rfl
  | some x => exact .inr (by simp)
/-- a row of burdens, summed -/
theorem kSumList (w : World) (base : Nat) (va : Go.Value) (ps : List (Int × Int)) (hn : ps.length ≤ 300) (hps : ∀ x ∈ ps, (0 ≤ x.1 ∧ x.1 ≤ 1099511627776) ∧ (0 ≤ x.2 ∧ x.2 ≤ 1099511627776)) (h : w.ownsRow base 36 1 va ps.length (ps.map cxp)) (x y : Int)
    (hx : su (fun i => (ps.getD i (0, 0)).1) ps.length = x) (hy : su (fun i => (ps.getD i (0, 0)).2) ps.length = y) :
    Calls Try.prog 30 #[va] w fun e w' => e = .returned (.complex .f64 (floatOfInt .f64 x) (floatOfInt .f64 y)) ∧ w = w' := by
  have hget : ∀ i, i < ps.length → ps[i]? = some (ps.getD i (0, 0)) := fun i hi => by rw [List.getD_eq_getElem?_getD, List.getElem?_eq_getElem hi]; rfl
  have hbd : ∀ i, i < ps.length → (0 ≤ (ps.getD i (0, 0)).1 ∧ (ps.getD i (0, 0)).1 ≤ 1099511627776) ∧ (0 ≤ (ps.getD i (0, 0)).2 ∧ (ps.getD i (0, 0)).2 ≤ 1099511627776) := fun i hi => hps _ (List.mem_of_getElem? (hget i hi))
  rcases h.2 with ⟨rfl, h0⟩ | ⟨g, cap, cur, rfl, _, _, h2, _⟩
  · rw [h0] at hx hy
    subst hx hy; exact kSumNil w
  · by_cases h0 : ps.length = 0
    · rw [h0] at hx hy ⊢
      have hx' : (0 : Int) = x := hx
      have hy' : (0 : Int) = y := hy
      subst hx' hy'
      have HZ := Lib.hid fl_zero
      clear hget hbd hps h hn h0 hx hy h2
      go_enter Try.func30, Try.ntmps30
      go_wp2_with fail
      refine wp_loop_rounds 1 ?_
      rw [rounds_succ]
      go_wp2
      go_ret
      exact ⟨ret_cx HZ.out.symm HZ.out.symm, rfl⟩
    · exact kSum w g ps.length cap (fun i => (ps.getD i (0, 0)).1) (fun i => (ps.getD i (0, 0)).2) (by omega) hn h2 (fun i hi => by have := hbd i hi; omega) (fun i hi => by have := hbd i hi; omega)
        (fun i hi => (h.cellAt i (by omega)).trans (by rw [List.getElem?_map, hget i hi]; rfl)) x y hx hy


theorem row_ne {w : World} {b : Nat} {t e : TypeId} {k : Nat} {f : Nat → Go.Value} {base size n : Nat} {v : Go.Value} {xs : List Go.Value} (h : w.rowIs b t k f) (h' : w.ownsRow base e size v n xs) (hne : t ≠ e) : some b ≠ v.ownBlock := by
  rcases h'.2 with ⟨rfl, _⟩ | ⟨g, cap, cur, rfl, _, hg, _⟩
  · simp [Go.Value.ownBlock]
  · intro e1
    simp only [Go.Value.ownBlock, Option.some.injEq] at e1
    subst e1
    obtain ⟨cs, hc, _⟩ := h
    rw [hg] at hc
    injection hc with hc
    injection hc with _ hc
    exact hne hc.symm
theorem rep_succ (ps : List (Int × Int)) (x : Int × Int) (j : Nat) : (ps ++ List.replicate (j + 1) x).map cxp = (ps ++ List.replicate j x).map cxp ++ [cxp x] := by
  rw [List.replicate_succ', ← List.append_assoc, List.map_append]; rfl
/-- a service as it lies in memory -/
def Svc (cs : List Go.Value) (r c m : Int) : Prop := cs.length = 18 ∧ cs[9]? = some (.int .i64 r) ∧ cs[16]? = some (.int .i64 c) ∧ cs[17]? = some (.int .i64 m) ∧ ∀ v ∈ cs, v.oneCell' = true
theorem there_new (w : World) (Z : Array Go.Value) (t : TypeId) {n : Nat} (hn : n ≤ Z.size) : (w.alloc (.cells Z t)).there w.heap.size 0 n := fun j hj => by
  refine ⟨?_, ?_⟩
  · rw [World.cell?_alloc_at _ _ _ _ rfl]
    rw [Nat.zero_add, Array.getElem?_eq_getElem (by omega)]; rfl
  · exact World.frozen?_alloc_new _ _ _ _
theorem setCells_block {b : Nat} : ∀ (vs : List Go.Value) (o : Nat) (w : World) {i : Nat}, i ≠ b → (w.setCells b o vs).heap[i]? = w.heap[i]?
  | [], _, _, _, _ => rfl
  | v :: r, o, w, i, h => by rw [World.setCells, setCells_block r (o + 1) _ h]; exact Below.heap_setCell w ⟨b, o, none⟩ v i h
theorem setCells_size {b : Nat} : ∀ (vs : List Go.Value) (o : Nat) (w : World), (w.setCells b o vs).heap.size = w.heap.size
  | [], _, _ => rfl
  | v :: r, o, w => by rw [World.setCells, setCells_size r (o + 1)]; simp [World.setCell]
theorem below_setCells {b B : Nat} {a : World} : ∀ (vs : List Go.Value) (o : Nat) (w : World), Below B a w → B ≤ b → Below B a (w.setCells b o vs)
  | [], _, _, h, _ => h
  | v :: r, o, w, h, hb => by rw [World.setCells]; exact below_setCells r (o + 1) _ (h.setCell hb v) hb
theorem grown_setCells (w : World) (b o : Nat) (vs : List Go.Value) : w.grownBy (w.setCells b o vs) (some b) := by
  have h := below_setCells (B := 0) vs o w (Below.refl 0 w) (Nat.zero_le b)
  exact ⟨h.os, h.tape, h.output, by rw [setCells_size]; exact Nat.le_refl _, fun i _ hne => setCells_block vs o w (fun e => hne (by rw [e]))⟩
theorem setCells_type {b : Nat} {t : TypeId} : ∀ (vs : List Go.Value) (o : Nat) (w : World), (∃ C, w.heap[b]? = some (.cells C t (0, 0))) → ∃ C, (w.setCells b o vs).heap[b]? = some (.cells C t (0, 0))
  | [], _, _, h => h
  | v :: r, o, w, ⟨C, hC⟩ => by
    rw [World.setCells]
    exact setCells_type r (o + 1) _ ⟨C.setIfInBounds o v, by simp [World.setCell, Array.getElem?_modify, hC]⟩
theorem type_ne {w : World} {b : Nat} {t e : TypeId} {base size n : Nat} {v : Go.Value} {xs : List Go.Value} (h : ∃ C, w.heap[b]? = some (.cells C t (0, 0))) (h' : w.ownsRow base e size v n xs) (hne : t ≠ e) : some b ≠ v.ownBlock := by
  rcases h'.2 with ⟨rfl, _⟩ | ⟨g, cap, cur, rfl, _, hg, _⟩
  · simp [Go.Value.ownBlock]
  · intro e1
    simp only [Go.Value.ownBlock, Option.some.injEq] at e1
    subst e1
    obtain ⟨C, hc⟩ := h
    rw [hg] at hc
    injection hc with hc
    injection hc with _ hc
    exact hne hc.symm
theorem rep_len (ps : List (Int × Int)) (x : Int × Int) (j : Nat) : (ps ++ List.replicate (j + 1) x).length = (ps ++ List.replicate j x).length + 1 := by simp; omega

set_option maxRecDepth 100000 in
set_option maxHeartbeats 8000000 in
theorem kProject (p0 p2 p3 : Go.Value) (A : Option Addr) (n cap : Nat) (V : Nat → List Go.Value) (r c m : Nat → Int) (w : World) (hn : n ≤ 1000) (hcap : n ≤ cap) (hcap2 : cap ≤ maxLen)
    (hcell : 0 < n → ∃ b off, A = some ⟨b, off, none⟩ ∧ b < w.heap.size ∧ ∀ i, i < n → w.rangeAt b (off + i * 18) (V i) ∧ Svc (V i) (r i) (c i) (m i)) (N : Nat) (hN : (n ≤ 16 ∧ n = N) ∨ (16 < n ∧ N = 16)) (x y : Int) (hx : prj c r N = x) (hy : prj m r N = y) :
    Calls Try.prog 47 #[.agg #[p0, .slice A n cap, p2, p3]] w fun e w' => e = .returned (.complex .f64 (floatOfInt .f64 x) (floatOfInt .f64 y)) ∧ Below w.heap.size w w' := by
  unfold maxLen at hcap2
  obtain ⟨iC, hiC, hzC, hsC, hbC⟩ := info_parts infoC5
  have HL := Lib.hid hcell
  obtain ⟨M, hM1, hM2, hx', hy'⟩ : ∃ M, M ≤ N ∧ N ≤ M ∧ prj c r M = x ∧ prj m r M = y := ⟨N, Nat.le_refl _, Nat.le_refl _, hx, hy⟩
  have HX := Lib.hid hx'
  have HY := Lib.hid hy'
  have hmax : max (16 : Int) 0 = 16 := by decide
  have hMn : M ≤ n := by omega
  have hM16 : M ≤ 16 := by omega
  clear hx hy hcell hx' hy'
  rcases hN with ⟨h16, rfl⟩ | ⟨h16, rfl⟩
  all_goals
    go_enter Try.func47, Try.ntmps47
    go_wp2_with fail
    obtain ⟨W0, hW0⟩ : ∃ W0, W0 = w.alloc (Obj.cells #[p0, .slice A n cap, p2, p3] 58) := ⟨_, rfl⟩
    rw [← hW0]
    have hwb : Below w.heap.size w W0 := by rw [hW0]; exact (Below.refl _ _).alloc (Nat.le_refl _) _
    have hws : w.heap.size < W0.heap.size := by rw [hW0]; simp
    have HW := Lib.hid hwb
    clear hW0 hwb
    go_loopw [3, 14] (fun s3 i wr => ∃ (k : Nat) (va : Go.Value), k ≤ M ∧ va = s3 ∧ i = .int .i64 k ∧ Hid (wr.ownsRow W0.heap.size 36 1 va (lst c m r k).length ((lst c m r k).map cxp)) ∧ Below W0.heap.size W0 wr) (fun _ i _ => M - (intOf i).toNat)
    case atStart => exact ⟨0, _, Nat.zero_le _, rfl, rfl, Lib.hid (World.ownsRow_nil _ _ _ _), Below.refl _ _⟩
    case round =>
      obtain ⟨k, va, hk, rfl, rfl, HA, hbl⟩ := hrel
      by_cases hlt : k < M
      · obtain ⟨b, off, rfl, hb, hL⟩ := HL.out (by omega)
        obtain ⟨hS0, hlen18, h9, h16', h17, hone⟩ := hL k (by omega)
        have hrange : wr.rangeAt b (off + k * 18) (V k) := fun j v hv =>
          (hbl.cell (p := ⟨b, off + k * 18 + j, none⟩) (by show b < W0.heap.size; omega)).trans ((HW.out.cell (p := ⟨b, off + k * 18 + j, none⟩) hb).trans (hS0 j v hv))
        have hinfo : (Try.prog.info? 67).map (·.size) = some (V k).length := by rw [hlen18]; kernel_rfl
        have hinfo2 : (Try.prog.info? 67).map (·.size) = some (V k).toArray.size := by rw [List.size_toArray]; exact hinfo
        have hone2 := all_oneCell_toArray hone
        have HI := Lib.hid hinfo
        have HI2 := Lib.hid hinfo2
        have HO := Lib.hid hone2
        have HRg := Lib.hid hrange
        have H9 := Lib.hid h9
        have H16 := Lib.hid h16'
        have H17 := Lib.hid h17
        have H18 := Lib.hid hlen18
        have hi1 : (k : Int) < (n : Int) := by omega
        clear hL hS0 h9 h16' h17 hone hone2 hinfo hinfo2 hrange hlen18
        have hsz := hbl.size
        go_upto_region 5 with (first
          | (with_reducible refine wpList_load_mid rfl 67 _ rfl b (off + k * 18) rfl (V k) _ HRg.out Try.underlying67 rfl HI.out ?_)
          | (with_reducible refine wpList_store_mid rfl 67 _ _ rfl wr.heap.size 0 (V k).toArray rfl rfl (there_new _ _ _ (by rw [List.size_toArray, H18.out]; decide)) HI2.out HO.out ?_))
        obtain ⟨wo, hwo⟩ : ∃ wo, wo = World.setCells (wr.alloc (Obj.cells #[.string ⟨#[]⟩, .string ⟨#[]⟩, .slice none 0 0, .slice none 0 0, .slice none 0 0, .slice none 0 0, .slice none 0 0, .slice none 0 0, .slice none 0 0, .int .i64 0, .string ⟨#[]⟩, .int .i64 0, .int .i64 0, .int .i64 0, .int .i64 0, .int .i64 0, .int .i64 0, .int .i64 0] 67)) wr.heap.size 0 (V k) := ⟨_, rfl⟩
        rw [← hwo]
        have hro : wo.rangeAt wr.heap.size 0 (V k) := by rw [hwo]; exact World.rangeAt_setCells_same _ _ _ _ (there_new _ _ _ (by rw [H18.out]; decide))
        have hto : ∃ C, wo.heap[wr.heap.size]? = some (.cells C 67 (0, 0)) := by rw [hwo]; exact setCells_type _ _ _ ⟨_, heap_alloc_new _ _⟩
        have hbo : Below W0.heap.size W0 wo := by rw [hwo]; exact below_setCells _ _ _ (hbl.alloc hsz _) hsz
        have hao : wo.ownsRow W0.heap.size 36 1 va (lst c m r k).length ((lst c m r k).map cxp) := by
          rw [hwo]
          exact ((HA.out.alloc _)).kept (grown_setCells _ _ _ _) (.inr fun e => by have := (HA.out.lt _ e).2; omega)
        have hso : wo.heap.size = wr.heap.size + 1 := by rw [hwo, setCells_size]; simp
        have f9 : wo.cell? ⟨wr.heap.size, 9, none⟩ = some (.int .i64 (r k)) := by have := hro 9 _ H9.out; rwa [Nat.zero_add] at this
        have hlen := lst_len c m r k
        have hRl := reps_le (r k)
        obtain ⟨R, hR⟩ : ∃ R, reps (r k) = R := ⟨_, rfl⟩
        have HRt : Hid (lst c m r (k + 1) = lst c m r k ++ List.replicate R (nearM (c k), nearM (m k))) := Lib.hid (by rw [lst_succ, hR])
        have hr : (r k ≤ 8 ∧ ((R : Int) = r k ∨ (R = 0 ∧ r k < 0))) ∨ (8 < r k ∧ R = 8) := by rw [← hR]; unfold reps; omega
        rw [hR] at hRl
        have HRO := Lib.hid hro
        have HTO := Lib.hid hto
        have HAO := Lib.hid hao
        have hsz3 : W0.heap.size ≤ wr.heap.size := hsz
        have hsz2 : wr.heap.size < wo.heap.size := by omega
        have KS := Lib.hid (fun w1 => kService (V k) (c k) (m k) w1 H16.out H17.out)
        have HCX := Lib.hid (show cxp (nearM (c k), nearM (m k)) = .complex .f64 (floatOfInt .f64 (nearM (c k))) (floatOfInt .f64 (nearM (m k))) from rfl)
        clear hR hwo hro hto hao hso HA hbl HRg H9 H16 H17 H18 HI2 HO hsz
        generalize lst c m r k = ps at *
        generalize nearM (c k) = c1 at *
        generalize nearM (m k) = m1 at *
        generalize wr.heap.size = Bs at *
        rcases hr with ⟨hr8, hr⟩ | ⟨hr8, hr⟩
        all_goals
          have HR := Lib.hid hr
          clear hr
          go_wp2_with fail
          obtain ⟨wz, rfl⟩ : ∃ wz : World, wz = wr := ⟨_, rfl⟩
          go_loopw [3, 21] (fun s3 i wr => ∃ (j : Nat) (vb : Go.Value), j ≤ R ∧ vb = s3 ∧ i = .int .i64 j ∧ Hid (wr.ownsRow W0.heap.size 36 1 vb (ps ++ List.replicate j (c1, m1)).length ((ps ++ List.replicate j (c1, m1)).map cxp)) ∧ Hid (wr.heap[Bs]? = wo.heap[Bs]?) ∧ Below W0.heap.size W0 wr) (fun _ i _ => R - (intOf i).toNat)
          case atStart => exact ⟨0, _, Nat.zero_le _, rfl, rfl, Lib.hid (by rw [List.replicate_zero, List.append_nil]; exact HAO.out), Lib.hid rfl, hbo⟩
          case round =>
            obtain ⟨j, vb, hj, rfl, rfl, HB, HQ, hbw⟩ := hrel
            by_cases hjR : j < R
            · have hj1 : (j : Int) < min (r k) 8 := by have := HR.out; omega
              have hrg : wr.rangeAt Bs 0 (V k) := fun i v hv => (World.cell?_of_block (a := ⟨Bs, 0 + i, none⟩) HQ.out).trans (HRO.out i v hv)
              have HRG := Lib.hid hrg
              have hlenB : (ps ++ List.replicate j (c1, m1)).length ≤ 200 := by rw [List.length_append, List.length_replicate]; omega
              have hszw := hbw.size
              have hne := type_ne (t := 67) (by rw [HQ.out]; exact HTO.out) HB.out (by decide)
              have hBs : Bs < wr.heap.size := by
                rcases Nat.lt_or_ge Bs wr.heap.size with h | h
                · exact h
                · obtain ⟨C, hC⟩ := HTO.out
                  have := HQ.out
                  rw [Array.getElem?_eq_none h, hC] at this; cases this
              have HNE := Lib.hid hne
              clear hrg hne
              go_wp2_with (first
                | (with_reducible refine wpList_load_mid rfl 67 _ rfl Bs 0 rfl (V k) _ HRG.out Try.underlying67 rfl HI.out ?_))
              refine (KS.out _).mono ?_
              rintro e w2 ⟨rfl, hb2⟩
              have hz2 := hb2.size
              have hmx : (ps ++ List.replicate j (c1, m1)).length + 1 ≤ maxLen := by unfold maxLen; omega
              go_wp2_with (first
                | (at_builtin; refine wpList_append_lies _ rfl _ _ 34 rfl W0.heap.size 36 iC _ 1 16 Try.underlying34 hiC hzC hsC hbC rfl (by decide) vb _ _ rfl ((own_below5 HB.out hb2).alloc _) ⟨w2.heap.size, 0, none⟩ 1 1 [cxp (c1, m1)] rfl rfl (World.news_of_block (cs := #[cxp (c1, m1)]) (t := 36) (fr := (0, 0)) (heap_alloc_new w2 _)) (by simp [cxp, Go.Value.oneCell']) (by decide) hmx (by omega) (by simp; omega) (w2.heap.size + 1) (by simp) ?_; intro g1 cap1 w3 hown hgrow hat hlt3))
              have hszg := hgrow.size
              have HB3 : Hid (w3.ownsRow W0.heap.size 36 1 (.slice (some ⟨g1, 0, none⟩) (ps.length + j + 1) cap1) (ps ++ List.replicate (j + 1) (c1, m1)).length ((ps ++ List.replicate (j + 1) (c1, m1)).map cxp)) := Lib.hid (by rw [rep_len, rep_succ, show ps.length + j = (ps ++ List.replicate j (c1, m1)).length by simp]; exact hown)
              have HQ3 : Hid (w3.heap[Bs]? = wo.heap[Bs]?) := Lib.hid (by
                rw [hgrow.block Bs (by simp; omega) HNE.out]
                exact ((Below.heap_alloc w2 _ Bs (by omega)).trans (hb2.block Bs hBs)).trans HQ.out)
              have hb3 : Below W0.heap.size W0 w3 := ((hbw.trans (hb2.mono hszw)).alloc (by omega) _).grown hgrow (by simp; omega) (fun g hg => (HB.out.lt g hg).1)
              clear hown hgrow hat hlt3 hb2 HB HQ hbw
              go_wp2
              go_roundw
              case rel => exact ⟨j + 1, _, by omega, rfl, by go_num, HB3, HQ3, hb3⟩
              case measure => simp [intOf]; omega
            · have hj1 : ¬ (j : Int) < min (r k) 8 := by have := HR.out; omega
              have hjR2 : j = R := by omega
              have HB3 : Hid (wr.ownsRow W0.heap.size 36 1 vb (lst c m r (k + 1)).length ((lst c m r (k + 1)).map cxp)) := Lib.hid (by rw [HRt.out, ← hjR2]; exact HB.out)
              clear hjR2
              go_wp2_with fail
              go_roundw
              case rel => exact ⟨k + 1, _, by omega, rfl, by go_num, HB3, hbw⟩
              case measure => simp [intOf]; omega
      · have hkM : k = M := by omega
        have hl := lst_len c m r k
        have K := Lib.hid (fun x y hx hy => kSumList wr W0.heap.size va (lst c m r k) (by omega) (lst_bd c m r k) HA.out x y hx hy)
        have hx1 : su (fun i => ((lst c m r k).getD i (0, 0)).1) (lst c m r k).length = x := (prj_fst c m r k).trans (by rw [hkM]; exact HX.out)
        have hy1 : su (fun i => ((lst c m r k).getD i (0, 0)).2) (lst c m r k).length = y := (prj_snd c m r k).trans (by rw [hkM]; exact HY.out)
        have K2 := Lib.hid (K.out x y hx1 hy1)
        have hbf : Below w.heap.size w wr := HW.out.trans (hbl.mono (by omega))
        clear K hx1 hy1 hkM hl HA hbl
        go_wp2_with fail
        refine K2.out.mono ?_
        rintro e w1 ⟨rfl, rfl⟩
        go_wp2_with fail
        go_ret
        exact ⟨rfl, hbf⟩
end Go.Proofs.Ytglihjdbbpohlaa.W
