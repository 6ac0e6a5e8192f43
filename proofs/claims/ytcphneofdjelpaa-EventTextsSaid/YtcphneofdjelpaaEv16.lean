/- The law of the finds: the walk. -/
import Derived.Test.YtcphneofdjelpaaEv15
namespace Go.Proofs.Ytcphneofdjelpaa.W
open Go.RowKit Go.Proofs.Ytcphneofdjelpaa.Pl

theorem rd_no (w : World) : Rd w noNV := ⟨⟨Nat.le_refl _, by show (0 : Nat) ≤ maxLen; unfold maxLen; omega, fun h => absurd h (by decide)⟩, ⟨Nat.le_refl _, by show (0 : Nat) ≤ maxLen; unfold maxLen; omega, fun h => absurd h (by decide)⟩⟩
theorem rd_last {w : World} {xs : List NV} (h : ∀ x ∈ xs, Rd w x) (p : NV → Bool) : Rd w (lastNV (xs.filter p)) := by
  unfold lastNV
  cases hl : (xs.filter p).getLast? with
  | none => exact rd_no w
  | some x => exact h x (List.mem_filter.1 (List.mem_of_getLast? hl)).1

/-- an operation of a region that draws is taken first: the slot is written at once -/
theorem takeD {P : Program} {md : Region.Mode} {ops : Array Oper} {Q : Exit → Act → World → Prop} {S : World → Prop} {i d : Nat} {oi : Oper} {v : Go.Value} {fuel : Nat} {listed : Array Bool} {tm : Array Go.Value} {df : _} {w : World} (hi : ops[i]? = some oi) (hd : oi.dst = some d)
    (hs : Region.noSelect ops = true) (hf : Region.free md ops listed i = true) (hr : (Region.ready md ops listed).contains i = true)
    (hQ : ∀ c a w, Q (.panic c) (a.put oi.dst v) w → Q (.panic c) a w) (hy : YieldsIf P ops S oi v ⟨tm, df⟩) (hS : S w)
    (h : wpAnyH P md ops Q S fuel (listed.setIfInBounds i true) ⟨tm.setIfInBounds d v, df⟩ w) : wpAnyH P md ops Q S (fuel + 1) listed ⟨tm, df⟩ w :=
  wpAnyH_take hi hs hf hr hQ hy hS (by rw [hd]; exact h)

theorem row_one (W : World) (b : Nat) (t : TypeId) (x : NV) (h : W.heap[b]? = some (.cells x.cells.toArray t (0, 0))) : NRow W (.slice (some ⟨b, 0, none⟩) 1 1) [x] := by
  refine ⟨some ⟨b, 0, none⟩, 1, rfl, Nat.le_refl _, by unfold maxLen; omega, fun _ => ⟨b, 0, rfl, ?_, fun i y hy => ?_⟩⟩
  · rcases Nat.lt_or_ge b W.heap.size with hlt | hge
    · exact hlt
    · rw [Array.getElem?_eq_none hge] at h; cases h
  · match i with
    | 0 =>
      simp only [List.getElem?_cons_zero, Option.some.injEq] at hy
      subst hy
      intro j v hv
      rw [cell_of_row W b _ _ _ _ h]
      simpa using hv
    | i + 1 => simp at hy
theorem kSameOne (y : NV) (W : World) (hr : Rd W y) :
    Calls Try.prog 11 #[.slice (some ⟨W.heap.size, 0, none⟩) 1 1, .slice (some ⟨W.heap.size + 1, 0, none⟩) 1 1] ((W.alloc (.cells y.cells.toArray 36)).alloc (.cells y.cells.toArray 36)) fun e w' => e = .returned (.bool true) ∧ Below W.heap.size W w' := by
  have hb : Below W.heap.size W ((W.alloc (.cells y.cells.toArray 36)).alloc (.cells y.cells.toArray 36)) := ((Below.refl _ _).alloc (Nat.le_refl _) _).alloc (by simp) _
  refine (kSame44 _ _ [y] _ (row_one _ _ 36 _ ?_) (row_one _ _ 36 _ (heap_new2 _ _ _ _ rfl)) (fun x hx => ?_)).mono ?_
  · rw [Below.heap_alloc _ _ _ (by simp)]; exact heap_alloc_new _ _
  · rw [List.mem_singleton] at hx; subst hx; exact hr.keep hb
  · rintro e w' ⟨he, hb'⟩
    exact ⟨he, hb.trans (hb'.mono (by simp; omega))⟩

set_option maxRecDepth 100000 in
set_option maxHeartbeats 16000000 in
theorem kFinds (v : Go.Value) (xs : List NV) (kd : Int) (w : World) (hr : NRow w v xs) (hrd : ∀ x ∈ xs, Rd w x) :
    Calls Try.prog 3 #[v, .int .i64 kd] w fun e w' => e = .returned (.bool true) ∧ Below w.heap.size w w' := by
  have KA := Lib.hid (fun w1 => kAwake w1)
  by_cases hfew : fewB xs = true
  case neg =>
    have KF := Lib.hid (kFew v xs w hr)
    rw [show fewB xs = false by simpa using hfew] at KF
    clear hfew hr hrd
    go_enter Try.func3, Try.ntmps3
    go_wp2_with fail
    refine KF.out.mono ?_
    rintro e w' ⟨rfl, rfl⟩
    go_wp2_with fail
    refine (KA.out _).mono ?_
    rintro e w1 ⟨rfl, hb1⟩
    go_wp2_with fail
    go_ret
    exact ⟨rfl, hb1⟩
  have KF := Lib.hid (kFew v xs w hr)
  rw [hfew] at KF
  have hn := few_len hfew
  have KM := Lib.hid (kMine v xs w hn hr)
  have KD := Lib.hid (fun u w1 h => kDone u xs w1 hn h)
  have KL := Lib.hid (fun u w1 h => kLast u xs w1 hn h)
  have KO := Lib.hid (fun u w1 h => kOf u xs kd w1 hn h)
  have hyn : (xs.filter (fun x => x.kind == kd)).length ≤ 60 := Nat.le_trans (List.length_filter_le _ _) hn
  have KN := Lib.hid (fun u w1 h => kNotes u (xs.filter (fun x => x.kind == kd)) w1 hyn h)
  have hdn : (xs.filter isDone).length ≤ 60 := Nat.le_trans (List.length_filter_le _ _) hn
  have HRD := Lib.hid hrd
  obtain ⟨A, cap, rfl, hcap, hcap2, hcell⟩ := hr
  unfold maxLen at hcap2
  have HL := Lib.hid hcell
  obtain ⟨iC, zC, hiC, hzC, hcC, hsC, hbC⟩ := info_parts' infoRN
  clear hcell hfew hrd
  obtain ⟨n, hnn⟩ : ∃ n, xs.length = n := ⟨_, rfl⟩
  have HN := Lib.hid hnn
  rw [hnn] at hn hcap HL KF KM ⊢
  clear hnn
  obtain ⟨F, hF⟩ : ∃ F : Nat → List NV, ∀ k, F k = (xs.take k).filter (fun x => x.kind == kd) := ⟨_, fun _ => rfl⟩
  obtain ⟨Y, hY⟩ : ∃ Y : Nat → NV, ∀ k, Y k = lastNV ((xs.take k).filter (fun x => x.kind == 4)) := ⟨_, fun _ => rfl⟩
  obtain ⟨O, hO⟩ : ∃ O : Nat → Bool, ∀ k, O k = !((xs.take k).filter (fun x => x.kind == 4)).isEmpty := ⟨_, fun _ => rfl⟩
  obtain ⟨D, hD⟩ : ∃ D : Nat → Nat, ∀ k, D k = ((xs.take k).filter isDone).length := ⟨_, fun _ => rfl⟩
  have HFl : ∀ k, (F k).length ≤ k := fun k => by rw [hF]; exact filter_len _ _ _
  have HDl : ∀ k, D k ≤ k := fun k => by rw [hD]; exact filter_len _ _ _
  have HF := Lib.hid hF
  have HY := Lib.hid hY
  have HOv := Lib.hid hO
  have HD := Lib.hid hD
  clear hF hY hO hD
  obtain ⟨ds, hds⟩ : ∃ ds, xs.filter isDone = ds := ⟨_, rfl⟩
  have HDS := Lib.hid hds
  rw [hds] at KD hdn
  clear hds
  go_enter Try.func3, Try.ntmps3
  go_wp2_with fail
  refine KF.out.mono ?_
  rintro e w' ⟨rfl, rfl⟩
  go_wp2_with fail
  refine KM.out.mono ?_
  rintro e w1 ⟨u5, rfl, hown5, hb1⟩
  clear KF KM
  have H5 := Lib.hid (show w1.ownsRow w.heap.size 40 22 u5 xs.length (flat xs) by rw [HN.out]; exact hown5)
  have HB1 := Lib.hid hb1
  clear hown5 hb1
  go_wp2_with fail
  obtain ⟨w2, hw2⟩ : ∃ w2, w2 = w1.alloc (Obj.cells #[.int .i64 0, .int .i64 0, .string ⟨#[]⟩, .int .i64 0, .string ⟨#[]⟩, .int .i64 0, .string ⟨#[]⟩, .string ⟨#[]⟩, .string ⟨#[]⟩, .int .i64 0, .string ⟨#[]⟩, .slice none 0 0, .slice none 0 0, .string ⟨#[]⟩, .int .i64 0, .int .i64 0, .int .i64 0, .int .i64 0, .int .i64 0, .int .i64 0, .int .i64 0, .int .i64 0] 36) := ⟨_, rfl⟩
  rw [← hw2]
  have hs2 : w2.heap.size = w1.heap.size + 1 := by rw [hw2]; simp
  have hr2 : w2.rangeAt w1.heap.size 0 noNV.cells := by
    rw [hw2]; intro j v hv; rw [Nat.zero_add, World.cell?_alloc_at _ _ _ _ rfl]; show (noNV.cells.toArray)[j]? = _; simpa using hv
  have ht2 : w2.there w1.heap.size 0 22 := by rw [hw2]; exact there_new _ _ _ (by decide)
  have hb2 : Below w1.heap.size w1 w2 := by rw [hw2]; exact (Below.refl _ _).alloc (Nat.le_refl _) _
  clear hw2
  refine (KD.out u5 w2 (NRow.of (own_below5 H5.out hb2))).mono ?_
  rintro e w3 ⟨u9, rfl, hown9, hb3⟩
  obtain ⟨A9, cap9, hu9, hcap9, hform9⟩ := calls_form hown9
  have hL1 : w.heap.size ≤ w1.heap.size := HB1.out.size
  have hE : EF w w1.heap.size w3.heap.size u5 u9 xs ds [] (.slice none 0 0) noNV w3 := by
    have hs3 := hb3.size
    refine ⟨World.ownsRow_nil _ _ _ _, fun j v hv => (hb3.cell (p := ⟨w1.heap.size, 0 + j, none⟩) (by show w1.heap.size < _; omega)).trans (hr2 j v hv), there_keep hb3 (by omega) ht2, ?_, fun g hg => ?_, own_below5 (own_below5 H5.out hb2) hb3, fun g hg => (H5.out.lt g hg).2, (HB1.out.trans (hb2.mono hL1)).trans (hb3.mono (by omega)), hL1, by omega, Nat.le_refl _⟩
    · have := hown9; rwa [hs2] at this
    · exact (hown9.lt g hg).2
  have HE := Lib.hid hE
  clear hown9 hform9 hE H5 HB1 hs2 hr2 ht2 hb2 hb3 KD
  subst hu9
  generalize w1.heap.size = L at *
  generalize hB0 : w3.heap.size = B0 at *
  clear hB0
  go_wp2_with fail
  go_loopw [6, 8, 10, 11] (fun s6 s8 s10 i wr => ∃ (k : Nat) (va : Go.Value), k ≤ n ∧ va = s6 ∧ s8 = .bool (O k) ∧ s10 = .int .i64 (D k : Nat) ∧ i = .int .i64 k ∧ Hid (EF w L B0 u5 (.slice A9 ds.length cap9) xs ds (F k) va (Y k) wr)) (fun _ _ _ i _ => n - (intOf i).toNat)
  case atStart => exact ⟨0, _, Nat.zero_le _, rfl, by rw [HOv.out]; rfl, by rw [HD.out]; rfl, rfl, by rw [HF.out, HY.out]; exact HE⟩
  case round =>
    obtain ⟨k, va, hk, rfl, rfl, rfl, rfl, HR⟩ := hrel
    clear HE
    by_cases hlt : k < n
    · obtain ⟨b, off, rfl, hb, hL⟩ := HL.out (by omega)
      obtain ⟨x, hx⟩ : ∃ x, xs[k]? = some x := ⟨_, List.getElem?_eq_getElem (by have := HN.out; omega)⟩
      have HXR := Lib.hid (fun (W : World) (h : Below w.heap.size w W) => show W.rangeAt b (off + k * 22) x.cells from fun j v hv => (h.cell (p := ⟨b, off + k * 22 + j, none⟩) hb).trans (hL k x hx j v hv))
      have c1 : wr.cell? ⟨b, off + k * 22 + 1, none⟩ = some (.int .i64 x.kind) := HXR.out wr HR.out.below 1 _ rfl
      have HX := Lib.hid hx
      have HI := Lib.hid (show (Try.prog.info? 36).map (·.size) = some x.cells.length by rw [NV.len]; exact infoRNsz)
      have HI2 := Lib.hid (show (Try.prog.info? 36).map (·.size) = some x.cells.toArray.size by rw [NV.size]; exact infoRNsz)
      have H1 := Lib.hid x.one
      have HO1 := Lib.hid (all_oneCell_toArray x.one)
      have hFk := HFl k
      have hDk := HDl k
      have hmx : (F k).length + 1 ≤ maxLen := by unfold maxLen; omega
      clear hL hx
      go_upto_if 34 with fail
      go_cut [6] (fun s6 wx => ∃ va', va' = s6 ∧ Hid (EF w L B0 u5 (.slice A9 ds.length cap9) xs ds (F (k + 1)) va' (Y k) wx))
      case first =>
        by_cases hkd : x.kind = kd
        · have hkb : (x.kind == kd) = true := beqT hkd
          have HF1 : Hid (F (k + 1) = F k ++ [x]) := Lib.hid (by rw [HF.out, HF.out, filter_snoc HX.out, if_pos hkb])
          have HXr := Lib.hid (HXR.out wr HR.out.below)
          have hBs := HR.out.size
          dsimp only [NV.cells] at HXr HI
          clear hkd
          go_wp2_with (first
            | (with_reducible refine wpList_load_mid rfl 36 _ rfl b (off + k * 22) rfl _ _ HXr.out Try.underlying36 rfl HI.out ?_)
            | (at_builtin; go_must (refine wpList_append_lies _ rfl _ _ 22 rfl B0 36 iC zC 22 264 Try.underlying22 hiC hzC hsC hbC hcC (by decide) va _ _ rfl (HR.out.of.alloc _) ⟨wr.heap.size, 0, none⟩ 1 1 x.cells rfl rfl (World.news_of_block (cs := x.cells.toArray) (t := 36) (fr := (0, 0)) (heap_alloc_new wr _)) H1.out (by decide) hmx (by omega) (by simp; omega) (wr.heap.size + 1) (by simp) ?_); intro g1 cap1 w4 hown hgrow hat hlt3))
          go_meet
          exact ⟨_, rfl, Lib.hid ((HR.out.alloc _).grown hgrow (by rw [HF1.out, flat_snoc, List.length_append]; exact hown))⟩
        · have hkb : (x.kind == kd) = false := beqF hkd
          have HF1 : Hid (F (k + 1) = F k) := Lib.hid (by rw [HF.out, HF.out, filter_snoc HX.out, if_neg (by simp [hkb]), List.append_nil])
          clear hkd
          go_wp2_with fail
          go_meet
          exact ⟨va, rfl, by rw [HF1.out]; exact HR⟩
      case rest =>
        obtain ⟨va', rfl, HR2⟩ := hcut
        have HXr := Lib.hid (HXR.out wc HR2.out.below)
        have c1 : wc.cell? ⟨b, off + k * 22 + 1, none⟩ = some (.int .i64 x.kind) := HXr.out 1 _ rfl
        clear HR hmx
        go_upto_if 47 with fail
        go_cut [8] (fun s8 wx => s8 = .bool (O (k + 1)) ∧ Hid (EF w L B0 u5 (.slice A9 ds.length cap9) xs ds (F (k + 1)) va' (Y (k + 1)) wx))
        case first =>
          by_cases h4 : x.kind = 4
          · have hkb : (x.kind == 4) = true := beqT h4
            have HY1 : Hid (Y (k + 1) = x) := Lib.hid (by rw [HY.out, filter_snoc HX.out, if_pos hkb, last_snoc])
            have HO2 : Hid (O (k + 1) = true) := Lib.hid (by rw [HOv.out, filter_snoc HX.out, if_pos hkb, snoc_ne])
            clear h4
            have hlx := x.len
            dsimp only [NV.cells] at HXr HI
            go_wp2_with (first
              | (with_reducible refine wpList_load_mid rfl 36 _ rfl b (off + k * 22) rfl _ _ HXr.out Try.underlying36 rfl HI.out ?_)
              | (refine wpList_store_mid rfl 36 _ _ rfl L 0 x.cells.toArray rfl rfl HR2.out.thr HI2.out HO1.out ?_))
            go_meet
            exact ⟨by rw [HO2.out], by rw [HY1.out]; exact Lib.hid (HR2.out.store x)⟩
          · have hkb : (x.kind == 4) = false := beqF h4
            have HY1 : Hid (Y (k + 1) = Y k) := Lib.hid (by rw [HY.out, HY.out, filter_snoc HX.out, if_neg (by simp [hkb]), List.append_nil])
            have HO2 : Hid (O (k + 1) = O k) := Lib.hid (by rw [HOv.out, HOv.out, filter_snoc HX.out, if_neg (by simp [hkb]), List.append_nil])
            clear h4
            go_wp2_with fail
            go_meet
            exact ⟨by rw [HO2.out], by rw [HY1.out]; exact HR2⟩
        case rest =>
          obtain ⟨rfl, HR3⟩ := hcut
          have HXr3 := Lib.hid (HXR.out wc HR3.out.below)
          have c1 : wc.cell? ⟨b, off + k * 22 + 1, none⟩ = some (.int .i64 x.kind) := HXr3.out 1 _ rfl
          have c21 : wc.cell? ⟨b, off + k * 22 + 21, none⟩ = some (.int .i64 x.e) := HXr3.out 21 _ rfl
          clear HR2 HXr HI HI2 H1 HO1
          by_cases hdone : isDone x = true
          · have hd2 := hdone
            unfold isDone at hd2
            rw [Bool.and_eq_true] at hd2
            obtain ⟨q1, q2⟩ := hd2
            have hat : ds[D k]? = some x := by rw [← HDS.out, HD.out]; exact filter_at HX.out hdone
            have hD1 : D (k + 1) = D k + 1 := by rw [HD.out, HD.out, filter_snoc HX.out, if_pos hdone, List.length_append]; rfl
            have HD1 := Lib.hid hD1
            have hlt9 : D k < ds.length := (List.getElem?_eq_some_iff.1 hat).1
            obtain ⟨A', cap', hu9, _, hform9⟩ := calls_form HR3.out.calls
            obtain ⟨b9, hA', hb9, hrow9⟩ := hform9 (by omega)
            obtain ⟨rfl, _⟩ : A9 = some ⟨b9, 0, none⟩ ∧ True := by
              rw [hA'] at hu9
              injection hu9 with h1
              exact ⟨h1, trivial⟩
            have hr9 := hrow9 (D k) x hat
            have hrx : wc.rangeAt b (off + k * 22 + 3) x.call := fun j v hv => by have := HXr3.out (3 + j) v (x.callAt j v hv); rwa [← Nat.add_assoc] at this
            have HI3 := Lib.hid (show (Try.prog.info? 33).map (·.size) = some x.call.length by rw [NV.callLen]; kernel_rfl)
            have HRDx := Lib.hid (show Rd wc x from (HRD.out x (List.mem_of_getElem? HX.out)).keep HR3.out.below)
            have hge : decide ((ds.length : Int) ≤ (D k : Int)) = false := decide_eq_false (by omega)
            have hgeN : decide (ds.length ≤ D k) = false := decide_eq_false (by omega)
            have hi0 : (0 : Int) ≤ (k : Int) := by omega
            have hi1 : (k : Int) < (n : Int) := by omega
            have hi2 : (0 : Int) ≤ (D k : Int) := by omega
            have hi3 : (D k : Int) < (ds.length : Int) := by omega
            clear hdone hat hD1 hu9 hform9 hA' hrow9
            go_upto_region 17 with fail
            have hS0 : (fun w' : World => w'.rangeAt b9 (D k * 16) x.call ∧ w'.rangeAt b (off + k * 22 + 3) x.call) wc.drew := ⟨hr9, hrx⟩
            refine wp_region_held_drew (S := fun w' : World => w'.rangeAt b9 (D k * 16) x.call ∧ w'.rangeAt b (off + k * 22 + 3) x.call) (by kernel_rfl) hS0 (fun _ => ?_)
            have HR4 := Lib.hid HR3.out.drew
            have HRD4 := Lib.hid (show Rd wc.drew x from HRDx.out.keep (Below.refl _ _).drew)
            generalize wc.drew = wd at *
            clear hr9 hrx HR3 HRDx c1 c21 HXr3
            refine takeD (i := 0) (d := 66) (v := ?v0) rfl (by rfl) (by kernel_rfl) (by kernel_rfl) (by kernel_rfl) (fun _ _ _ h => h) (Or.inl ⟨by rfl, ?hy0⟩) hS0 ?rest0
            case hy0 => (intro w hSw; go_simp; try with_reducible rfl)
            simp only [List.setIfInBounds_toArray, List.set_cons_zero, List.set_cons_succ]
            refine takeD (i := 1) (d := 67) (v := ?v1) rfl (by rfl) (by kernel_rfl) (by kernel_rfl) (by kernel_rfl) (fun _ _ _ h => h) (Or.inl ⟨by rfl, ?hy1⟩) hS0 ?rest1
            case hy1 => (intro w hSw; go_simp; try with_reducible rfl)
            simp only [List.setIfInBounds_toArray, List.set_cons_zero, List.set_cons_succ]
            refine takeD (i := 2) (d := 68) (v := ?v2) rfl (by rfl) (by kernel_rfl) (by kernel_rfl) (by kernel_rfl) (fun _ _ _ h => h) (Or.inl ⟨by rfl, ?hy2⟩) hS0 ?rest2
            case hy2 => (intro w hSw; go_simp; try with_reducible rfl)
            simp only [List.setIfInBounds_toArray, List.set_cons_zero, List.set_cons_succ]
            refine takeD (i := 3) (d := 69) (v := .bool false) rfl (by rfl) (by kernel_rfl) (by kernel_rfl) (by kernel_rfl) (fun _ _ _ h => h) (Or.inl ⟨by rfl, ?hy3⟩) hS0 ?rest3
            case hy3 => (intro w hSw; go_simp; try with_reducible rfl)
            simp only [List.setIfInBounds_toArray, List.set_cons_zero, List.set_cons_succ]
            refine takeD (i := 4) (d := 70) (v := .bool false) rfl (by rfl) (by kernel_rfl) (by kernel_rfl) (by kernel_rfl) (fun _ _ _ h => h) (Or.inl ⟨by rfl, ?hy4⟩) hS0 ?rest4
            case hy4 => (intro w hSw; go_simp; try with_reducible rfl)
            simp only [List.setIfInBounds_toArray, List.set_cons_zero, List.set_cons_succ]
            refine takeD (i := 5) (d := 71) (v := ?v5) rfl (by rfl) (by kernel_rfl) (by kernel_rfl) (by kernel_rfl) (fun _ _ _ h => h) (Or.inl ⟨by rfl, ?hy5⟩) hS0 ?rest5
            case hy5 => (intro w hSw; go_simp; try with_reducible rfl)
            simp only [List.setIfInBounds_toArray, List.set_cons_zero, List.set_cons_succ]
            refine takeD (i := 6) (d := 72) (v := ?v6) rfl (by rfl) (by kernel_rfl) (by kernel_rfl) (by kernel_rfl) (fun _ _ _ h => h) (Or.inl ⟨by rfl, ?hy6⟩) hS0 ?rest6
            case hy6 => (intro w hSw; go_simp; try with_reducible rfl)
            simp only [List.setIfInBounds_toArray, List.set_cons_zero, List.set_cons_succ]
            refine takeD (i := 7) (d := 73) (v := ?v7) rfl (by rfl) (by kernel_rfl) (by kernel_rfl) (by kernel_rfl) (fun _ _ _ h => h) (Or.inl ⟨by rfl, ?hy7⟩) hS0 ?rest7
            case hy7 => (intro w hSw; go_simp; try with_reducible rfl)
            simp only [List.setIfInBounds_toArray, List.set_cons_zero, List.set_cons_succ]
            refine takeD (i := 8) (d := 74) rfl (by rfl) (by kernel_rfl) (by kernel_rfl) (by kernel_rfl) (fun _ _ _ h => h) (yieldsIf_load_mid (by rfl) 33 _ rfl b9 (D k * 16) rfl x.call _ (fun w h => h.1) Try.underlying33 rfl HI3.out) hS0 ?_
            simp only [List.setIfInBounds_toArray, List.set_cons_zero, List.set_cons_succ]
            refine takeD (i := 9) (d := 75) (v := ?v9) rfl (by rfl) (by kernel_rfl) (by kernel_rfl) (by kernel_rfl) (fun _ _ _ h => h) (Or.inl ⟨by rfl, ?hy9⟩) hS0 ?rest9
            case hy9 => (intro w hSw; go_simp; try with_reducible rfl)
            simp only [List.setIfInBounds_toArray, List.set_cons_zero, List.set_cons_succ]
            refine takeD (i := 10) (d := 76) (v := ?v10) rfl (by rfl) (by kernel_rfl) (by kernel_rfl) (by kernel_rfl) (fun _ _ _ h => h) (Or.inl ⟨by rfl, ?hy10⟩) hS0 ?rest10
            case hy10 => (intro w hSw; go_simp; try with_reducible rfl)
            simp only [List.setIfInBounds_toArray, List.set_cons_zero, List.set_cons_succ]
            refine takeD (i := 11) (d := 77) (v := ?v11) rfl (by rfl) (by kernel_rfl) (by kernel_rfl) (by kernel_rfl) (fun _ _ _ h => h) (Or.inl ⟨by rfl, ?hy11⟩) hS0 ?rest11
            case hy11 => (intro w hSw; go_simp; try with_reducible rfl)
            simp only [List.setIfInBounds_toArray, List.set_cons_zero, List.set_cons_succ]
            refine takeD (i := 12) (d := 78) (v := ?v12) rfl (by rfl) (by kernel_rfl) (by kernel_rfl) (by kernel_rfl) (fun _ _ _ h => h) (Or.inl ⟨by rfl, ?hy12⟩) hS0 ?rest12
            case hy12 => (intro w hSw; go_simp; try with_reducible rfl)
            simp only [List.setIfInBounds_toArray, List.set_cons_zero, List.set_cons_succ]
            refine takeD (i := 13) (d := 79) rfl (by rfl) (by kernel_rfl) (by kernel_rfl) (by kernel_rfl) (fun _ _ _ h => h) (yieldsIf_load_mid (by rfl) 33 _ rfl b (off + k * 22 + 3) rfl x.call _ (fun w h => h.2) Try.underlying33 rfl HI3.out) hS0 ?_
            simp only [List.setIfInBounds_toArray, List.set_cons_zero, List.set_cons_succ]
            refine wpAnyH_ready (rs := [14]) (by kernel_rfl) (by simp) ?_
            refine AllReadyH.cons rfl (fun K hK => ?_) AllReadyH.nil
            rw [if_pos (by rfl)]
            have HK := Lib.hid hK
            clear hK
            go_simp
            refine (kSameCall x _ HRD4.out).mono ?_
            rintro e w4 ⟨rfl, hb4⟩
            have hS4 : (fun w' : World => w'.rangeAt b9 (D k * 16) x.call ∧ w'.rangeAt b (off + k * 22 + 3) x.call) w4 := ⟨fun j v hv => (hb4.cell (World.block_lt_of_cell? _ _ (hS0.1 j v hv))).trans (hS0.1 j v hv), fun j v hv => (hb4.cell (World.block_lt_of_cell? _ _ (hS0.2 j v hv))).trans (hS0.2 j v hv)⟩
            have HR5 := Lib.hid (HR4.out.keep hb4)
            clear hb4 hS0 HR4 HRD4
            go_wp2_with fail
            refine HK.out.out _ _ hS4 (fun _ => ?_)
            clear HK K
            refine takeD (i := 15) (d := 81) (v := .bool false) rfl (by rfl) (by kernel_rfl) (by kernel_rfl) (by kernel_rfl) (fun _ _ _ h => h) (Or.inl ⟨by rfl, ?hy15⟩) hS4 ?rest15
            case hy15 => (intro w hSw; go_simp; try with_reducible rfl)
            simp only [List.setIfInBounds_toArray, List.set_cons_zero, List.set_cons_succ]
            refine takeD (i := 16) (d := 82) (v := .bool false) rfl (by rfl) (by kernel_rfl) (by kernel_rfl) (by kernel_rfl) (fun _ _ _ h => h) (Or.inl ⟨by rfl, ?hy16⟩) hS4 ?rest16
            case hy16 => (intro w hSw; go_simp; try with_reducible rfl)
            simp only [List.setIfInBounds_toArray, List.set_cons_zero, List.set_cons_succ]
            refine wpAnyH_done (by kernel_rfl) ?_ _
            clear hS4
            go_wp2_with fail
            exact ⟨⟨k + 1, va', by omega, rfl, rfl, by rw [HD1.out]; go_num, by go_num, HR5⟩, by simp [intOf]; omega⟩
          · have HD1 : Hid (D (k + 1) = D k) := Lib.hid (by rw [HD.out, HD.out, filter_snoc HX.out, if_neg hdone, List.append_nil])
            unfold isDone at hdone
            by_cases h2 : x.kind = 2
            · have q1 : (x.kind == 2) = true := beqT h2
              have q2 : (x.e == 0) = false := by rw [q1, Bool.true_and] at hdone; simpa using hdone
              clear hdone h2
              go_wp2_with fail
              exact ⟨⟨k + 1, va', by omega, rfl, rfl, by rw [HD1.out], by go_num, HR3⟩, by simp [intOf]; omega⟩
            · have q1 : (x.kind == 2) = false := beqF h2
              clear hdone h2
              go_wp2_with fail
              exact ⟨⟨k + 1, va', by omega, rfl, rfl, by rw [HD1.out], by go_num, HR3⟩, by simp [intOf]; omega⟩
    · have hF' : xs.filter (fun x => x.kind == kd) = F k := by rw [HF.out, List.take_of_length_le (by have := HN.out; omega)]
      have hY' : lastNV (xs.filter (fun x => x.kind == 4)) = Y k := by rw [HY.out, List.take_of_length_le (by have := HN.out; omega)]
      have hO' : (!(xs.filter (fun x => x.kind == 4)).isEmpty) = O k := by rw [HOv.out, List.take_of_length_le (by have := HN.out; omega)]
      have hD' : D k = ds.length := by rw [HD.out, List.take_of_length_le (by have := HN.out; omega), HDS.out]
      have HRy := Lib.hid (show Rd w (Y k) by rw [← hY']; exact rd_last HRD.out _)
      have HRs := Lib.hid (show ∀ x ∈ F k, Rd w x by rw [← hF']; exact fun x hx => HRD.out x (List.mem_filter.1 hx).1)
      rw [hF'] at KO KN hyn
      rw [hY', hO'] at KL
      clear hF' hY' hO' HF HY HOv HD HRD HDS HFl HDl
      generalize F k = ys at *
      generalize Y k = y at *
      generalize O k = o at *
      generalize D k = dk at *
      subst hD'
      have HI := Lib.hid (show (Try.prog.info? 40).map (·.size) = some y.cells.toArray.size by rw [NV.size]; exact infoNsz)
      have HI1 := Lib.hid (show (Try.prog.info? 40).map (·.size) = some y.cells.length by rw [NV.len]; exact infoNsz)
      have HI2 := Lib.hid (show (Try.prog.info? 36).map (·.size) = some y.cells.length by rw [NV.len]; exact infoRNsz)
      have HO1 := Lib.hid (all_oneCell_toArray y.one)
      clear HL hiC hzC hcC hsC hbC
      go_wp2_with fail
      refine (KL.out u5 wr (NRow.of HR.out.mine)).mono ?_
      rintro e w4 ⟨rfl, hb4⟩
      have HR4 := Lib.hid (HR.out.keep hb4)
      clear hb4 KL HR
      go_upto_region 21 with (first
        | (with_reducible refine wpList_store_mid rfl 40 _ _ rfl w4.heap.size 0 y.cells.toArray rfl rfl (there_new _ _ _ (by rw [NV.size]; decide)) HI.out HO1.out ?_))
      obtain ⟨w5, hw5⟩ : ∃ w5, w5 = (w4.alloc (Obj.cells #[.int .i64 0, .int .i64 0, .string ⟨#[]⟩, .int .i64 0, .string ⟨#[]⟩, .int .i64 0, .string ⟨#[]⟩, .string ⟨#[]⟩, .string ⟨#[]⟩, .int .i64 0, .string ⟨#[]⟩, .slice none 0 0, .slice none 0 0, .string ⟨#[]⟩, .int .i64 0, .int .i64 0, .int .i64 0, .int .i64 0, .int .i64 0, .int .i64 0, .int .i64 0, .int .i64 0] 40)).setCells w4.heap.size 0 y.cells := ⟨_, rfl⟩
      rw [← hw5]
      have hb5 : Below w4.heap.size w4 w5 := by rw [hw5]; exact below_setCells _ _ _ ((Below.refl _ _).alloc (Nat.le_refl _) _) (Nat.le_refl _)
      have hr5 : w5.rangeAt w4.heap.size 0 y.cells := by rw [hw5]; exact World.rangeAt_setCells_same _ _ _ _ (there_new _ _ _ (by rw [NV.len]; decide))
      have HR5 := Lib.hid (HR4.out.keep hb5)
      have HRg := Lib.hid hr5
      have HRl := Lib.hid HR5.out.last
      clear hw5 hb5 hr5 HR4 HI HO1
      generalize w4.heap.size = N at *
      dsimp only [NV.cells] at HRg HRl HI1 HI2
      go_wp2_with (first
        | (with_reducible refine wpList_load_want rfl 40 _ rfl N 0 rfl _ _ HRg.out Try.underlying40 rfl HI1.out ?_)
        | (with_reducible refine wpList_load_want rfl 36 _ rfl L 0 rfl _ _ (World.rangeAt_alloc HRl.out _) Try.underlying36 rfl HI2.out ?_))
      have KS := kSameOne y w5 (HRy.out.keep HR5.out.below)
      dsimp only [NV.cells] at KS
      refine KS.mono ?_
      clear KS
      rintro e w6 ⟨rfl, hb6⟩
      have HR6 := Lib.hid (HR5.out.keep hb6)
      clear hb6 HR5 HRg HRl HRy HI1 HI2
      go_wp2_with fail
      refine (KO.out u5 w6 (NRow.of HR6.out.mine)).mono ?_
      rintro e w7 ⟨u7, rfl, hown7, hb7⟩
      have HR7 := Lib.hid (HR6.out.keep hb7)
      have H7 := Lib.hid (NRow.of hown7)
      clear hown7 hb7 HR6 KO
      go_wp2_with fail
      refine (KN.out u7 w7 H7.out).mono ?_
      rintro e w8 ⟨u8, rfl, hown8, hb8⟩
      have HR8 := Lib.hid (HR7.out.keep hb8)
      have H8 := Lib.hid (NRow.of hown8)
      clear hown8 hb8 HR7 H7 KN
      go_wp2_with fail
      refine (kSame44 u8 va ys w8 H8.out (NRow.of HR8.out.of) (fun x hx => (HRs.out x hx).keep HR8.out.below)).mono ?_
      rintro e w9 ⟨rfl, hb9⟩
      have HR9 := Lib.hid (HR8.out.keep hb9)
      clear hb9 HR8 H8
      go_wp2_with fail
      refine (KA.out w9).mono ?_
      rintro e w10 ⟨rfl, hb10⟩
      have HB := Lib.hid (HR9.out.keep hb10).below
      clear hb10 HR9
      go_wp2_with fail
      go_ret
      exact ⟨rfl, HB.out⟩
end Go.Proofs.Ytcphneofdjelpaa.W
