/- The law of the texts: the walk. -/
import Derived.Test.YtcphneofdjelpaaEv22
namespace Go.Proofs.Ytcphneofdjelpaa.W
open Go.RowKit Go.Proofs.Ytcphneofdjelpaa.Pl

theorem range_keep {W W' : World} {b o : Nat} {cs : List Go.Value} (h : W.rangeAt b o cs) (hb : Below W.heap.size W W') : W'.rangeAt b o cs := fun j v hv =>
  (hb.cell (World.block_lt_of_cell? _ _ (h j v hv))).trans (h j v hv)
theorem ok_of {x : NV} (h : okN x = true) (hn : x.num) : x.ok := by
  have h' := (okN_iff x).1 h
  exact ⟨hn.a1, hn.a2, hn.c1, hn.c2, hn.i1, hn.i2, hn.w1, hn.w2, h'.1, h'.2.1, h'.2.2.1⟩
theorem kNameE' (n : Int) (w : World) : Calls Try.prog 20 #[.int .i64 n] w fun e w' => e = .returned (.string (bs (wordN kindL n))) ∧ Below w.heap.size w w' := kNameE n w _ rfl
theorem kCommandE' (n : Int) (w : World) : Calls Try.prog 22 #[.int .i64 n] w fun e w' => e = .returned (.string (bs (wordN cmdL n))) ∧ Below w.heap.size w w' := kCommandE n w _ rfl

set_option maxRecDepth 100000 in
set_option maxHeartbeats 16000000 in
theorem kTexts (v : Go.Value) (xs : List NV) (c : NV) (kd : Int) (w : World) (hr : NRow w v xs) (hnum : ∀ x ∈ xs, x.num) (hc1 : -9223372036854775808 ≤ c.ci) (hc2 : c.ci ≤ 9223372036854775807) :
    Calls Try.prog 4 #[v, .agg c.call.toArray, .int .i64 kd] w fun e w' => e = .returned (.bool true) ∧ Below w.heap.size w w' := by
  have KA := Lib.hid (fun w1 => kAwake w1)
  obtain ⟨w0, hw0⟩ : ∃ w0, w0 = w.alloc (.cells c.call.toArray 33) := ⟨_, rfl⟩
  have hb0 : Below w.heap.size w w0 := by rw [hw0]; exact (Below.refl _ _).alloc (Nat.le_refl _) _
  have hC0 : w0.rangeAt w.heap.size 0 c.call := by
    rw [hw0]; intro j v hv; rw [Nat.zero_add, World.cell?_alloc_at _ _ _ _ rfl]; simpa using hv
  have HB0 := Lib.hid hb0
  have HC0 := Lib.hid hC0
  have HV0 := Lib.hid (hr.keep hb0)
  have HW0 := Lib.hid hw0
  have hz : w.heap.size < w0.heap.size := by rw [hw0]; simp
  have d1 : w0.cell? ⟨w.heap.size, 1, none⟩ = some (.string c.cn) := by have := hC0 1 _ rfl; rwa [Nat.zero_add] at this
  have d3 : w0.cell? ⟨w.heap.size, 3, none⟩ = some (.string c.s0) := by have := hC0 3 _ rfl; rwa [Nat.zero_add] at this
  have KF := Lib.hid (kFew v xs w0 HV0.out)
  clear hw0 hb0 hC0
  by_cases hgo : fewB xs = true ∧ c.cn.size ≤ 200 ∧ c.s0.size ≤ 200
  case neg =>
    have fin : ∀ w1, w1 = w0 → Calls Try.prog 6 #[] w1 fun e w' => e = .returned (.bool true) ∧ Below w.heap.size w w' := fun w1 h => by
      subst h
      exact (KA.out w1).mono fun e w' ⟨he, hb⟩ => ⟨he, HB0.out.trans (hb.mono (Nat.le_of_lt hz))⟩
    have HFin := Lib.hid fin
    clear fin KA HB0 HC0 HV0 hr hnum hc1 hc2 hz
    unfold NV.call at HW0 ⊢
    by_cases h1 : fewB xs = true
    · rw [h1] at KF
      by_cases h2 : c.cn.size ≤ 200
      · have h3 : ¬ c.s0.size ≤ 200 := fun h => hgo ⟨h1, h2, h⟩
        clear hgo h1
        go_enter Try.func4, Try.ntmps4
        go_wp2_with fail
        rw [← HW0.out]
        refine KF.out.mono ?_
        rintro e w' ⟨rfl, rfl⟩
        go_wp2_with fail
        refine (HFin.out _ rfl).mono ?_
        rintro e w1 ⟨rfl, hb1⟩
        go_wp2_with fail
        go_ret
        exact ⟨rfl, hb1⟩
      · clear hgo h1
        go_enter Try.func4, Try.ntmps4
        go_wp2_with fail
        rw [← HW0.out]
        refine KF.out.mono ?_
        rintro e w' ⟨rfl, rfl⟩
        go_wp2_with fail
        refine (HFin.out _ rfl).mono ?_
        rintro e w1 ⟨rfl, hb1⟩
        go_wp2_with fail
        go_ret
        exact ⟨rfl, hb1⟩
    · rw [show fewB xs = false by simpa using h1] at KF
      clear hgo h1
      go_enter Try.func4, Try.ntmps4
      go_wp2_with fail
      rw [← HW0.out]
      refine KF.out.mono ?_
      rintro e w' ⟨rfl, rfl⟩
      go_wp2_with fail
      refine (HFin.out _ rfl).mono ?_
      rintro e w1 ⟨rfl, hb1⟩
      go_wp2_with fail
      go_ret
      exact ⟨rfl, hb1⟩
  obtain ⟨hfew, hcn, hs0⟩ := hgo
  rw [hfew] at KF
  have hn := few_len hfew
  have hok : ∀ x ∈ xs, x.ok := fun x hx => ok_of (few_ok hfew x hx) (hnum x hx)
  have HOK := Lib.hid hok
  have KM := Lib.hid (kMine v xs w0 hn HV0.out)
  have KSE := Lib.hid (fun u w1 h => kShowE u xs w1 hn h hok)
  have KSR := Lib.hid (fun u w1 h => kShowR u xs w1 hn h hok)
  have KCE := Lib.hid (fun w1 => kCallE c w1 hcn hs0 hc1 hc2)
  have KCR := Lib.hid (fun w1 => kCallR c w1 hcn hs0 hc1 hc2)
  have KNE := Lib.hid (fun w1 => kNameE' kd w1)
  have KNR := Lib.hid (fun w1 => kNameR kd w1)
  have KME := Lib.hid (fun w1 => kCommandE' kd w1)
  have KMR := Lib.hid (fun w1 => kCommandR kd w1)
  have HI3 := Lib.hid (show (Try.prog.info? 33).map (·.size) = some c.call.length by rw [NV.callLen]; kernel_rfl)
  obtain ⟨A, cap, rfl, hcap, hcap2, hcell⟩ := hr
  unfold maxLen at hcap2
  obtain ⟨n, hnn⟩ : ∃ n, xs.length = n := ⟨_, rfl⟩
  have HN := Lib.hid hnn
  rw [hnn] at hn hcap KF KM HV0 ⊢
  clear hnn hok hfew hnum hcell hc1 hc2
  have HCL := Lib.hid (show c.call = [.int .i64 c.ck, .string c.cn, .int .i64 c.ci, .string c.s0, .string c.s1, .string c.s2, .int .i64 c.s3, .string c.s4, .slice c.na c.nl c.nc, .slice c.va c.vl c.vc, .string c.h0, .int .i64 c.h1, .int .i64 c.h2, .int .i64 c.h3, .int .i64 c.rs, .int .i64 c.tr] from rfl)
  rw [HCL.out] at HW0 ⊢
  go_enter Try.func4, Try.ntmps4
  go_wp2_with fail
  rw [← HW0.out]
  refine KF.out.mono ?_
  rintro e w' ⟨rfl, rfl⟩
  go_wp2_with fail
  refine KM.out.mono ?_
  rintro e w1 ⟨u7, rfl, hown7, hb1⟩
  replace hown7 : w1.ownsRow w0.heap.size 40 22 u7 xs.length (flat xs) := by rw [HN.out]; exact hown7
  have hM := NRow.of hown7
  obtain ⟨A7, cap7, hu7, hcap7, hcap72, _⟩ := hM
  have HM0 := Lib.hid (NRow.of hown7)
  have HB1 := Lib.hid hb1
  rw [HN.out] at hu7
  subst hu7
  rw [HN.out] at hcap7
  clear hown7 hb1 d1 d3 KF KM HW0
  generalize hBc : w.heap.size = Bc at *
  have HBc := Lib.hid hBc
  clear hBc
  go_wp2_with fail
  go_loopw [8] (fun i wr => ∃ (k : Nat), k ≤ n ∧ i = .int .i64 k ∧ Hid (NRow wr (.slice A7 n cap7) xs) ∧ Hid (Below w0.heap.size w0 wr)) (fun i _ => n - (intOf i).toNat)
  case atStart => exact ⟨0, Nat.zero_le _, rfl, HM0, HB1⟩
  case round =>
    obtain ⟨k, hk, rfl, HM, HW⟩ := hrel
    clear HM0 HB1
    by_cases hlt : k < n
    · obtain ⟨A', cap', hA', _, _, hLo⟩ := HV0.out
      obtain ⟨A'', cap'', hA'', _, _, hLo7⟩ := HM.out
      obtain ⟨b, off, hAe, hb, hL⟩ := hLo (by rw [HN.out]; omega)
      obtain ⟨b7, off7, hAe7, hb7, hL7⟩ := hLo7 (by rw [HN.out]; omega)
      obtain ⟨rfl, _⟩ : A = some ⟨b, off, none⟩ ∧ True := by rw [hAe] at hA'; injection hA' with h1; exact ⟨h1, trivial⟩
      obtain ⟨rfl, _⟩ : A7 = some ⟨b7, off7, none⟩ ∧ True := by rw [hAe7] at hA''; injection hA'' with h1; exact ⟨h1, trivial⟩
      obtain ⟨x, hx⟩ : ∃ x, xs[k]? = some x := ⟨_, List.getElem?_eq_getElem (by rw [HN.out]; omega)⟩
      have hr1 : wr.rangeAt b7 (off7 + k * 22) x.cells := hL7 k x hx
      have hr2 : wr.rangeAt b (off + k * 22) x.cells := range_keep (hL k x hx) HW.out
      have hxo := HOK.out x (List.mem_of_getElem? hx)
      have K1 := Lib.hid (fun w1 => kTextE x w1 hxo)
      have K2 := Lib.hid (fun w1 => kTextR x w1 hxo)
      have HI := Lib.hid (show (Try.prog.info? 40).map (·.size) = some x.cells.length by rw [NV.len]; exact infoNsz)
      have HI2 := Lib.hid (show (Try.prog.info? 36).map (·.size) = some x.cells.length by rw [NV.len]; exact infoRNsz)
      have hi0 : (0 : Int) ≤ (k : Int) := by omega
      have hi1 : (k : Int) < (n : Int) := by omega
      generalize noteT x = T at *
      clear hA' hA'' hLo hLo7 hL hL7 hAe hAe7 hx hxo HC0 HV0 KA KSE KSR KCE KCR KNE KNR KME KMR HOK
      go_upto_region 7 with fail
      have hS : (fun w' : World => w'.rangeAt b7 (off7 + k * 22) x.cells ∧ w'.rangeAt b (off + k * 22) x.cells) wr.drew := ⟨hr1, hr2⟩
      refine wp_region_held_drew (S := fun w' : World => w'.rangeAt b7 (off7 + k * 22) x.cells ∧ w'.rangeAt b (off + k * 22) x.cells) (by kernel_rfl) hS (fun _ => ?_)
      replace HW := Lib.hid (show Below w0.heap.size w0 wr.drew from HW.out.drew)
      replace HM := Lib.hid (HM.out.keep (Below.refl wr.heap.size wr).drew)
      generalize wr.drew = wd at *
      clear hr1 hr2 hb7 wr
      refine takeD (i := 0) (d := 34) (v := ?va0) rfl (by rfl) (by kernel_rfl) (by kernel_rfl) (by kernel_rfl) (fun _ _ _ h => h) (Or.inl ⟨by rfl, ?hya0⟩) hS ?resta0
      case hya0 => (intro w hSw; go_simp; try with_reducible rfl)
      simp only [List.setIfInBounds_toArray, List.set_cons_zero, List.set_cons_succ]
      refine takeD (i := 1) (d := 35) (v := ?va1) rfl (by rfl) (by kernel_rfl) (by kernel_rfl) (by kernel_rfl) (fun _ _ _ h => h) (Or.inl ⟨by rfl, ?hya1⟩) hS ?resta1
      case hya1 => (intro w hSw; go_simp; try with_reducible rfl)
      simp only [List.setIfInBounds_toArray, List.set_cons_zero, List.set_cons_succ]
      refine takeD (i := 2) (d := 36) (v := ?va2) rfl (by rfl) (by kernel_rfl) (by kernel_rfl) (by kernel_rfl) (fun _ _ _ h => h) (Or.inl ⟨by rfl, ?hya2⟩) hS ?resta2
      case hya2 => (intro w hSw; go_simp; try with_reducible rfl)
      simp only [List.setIfInBounds_toArray, List.set_cons_zero, List.set_cons_succ]
      refine takeD (i := 3) (d := 37) rfl (by rfl) (by kernel_rfl) (by kernel_rfl) (by kernel_rfl) (fun _ _ _ h => h) (yieldsIf_load_mid (by rfl) 40 _ rfl b7 (off7 + k * 22) rfl x.cells _ (fun w h => h.1) Try.underlying40 rfl HI.out) hS ?_
      simp only [List.setIfInBounds_toArray, List.set_cons_zero, List.set_cons_succ]
      refine takeD (i := 5) (d := 39) (v := ?va5) rfl (by rfl) (by kernel_rfl) (by kernel_rfl) (by kernel_rfl) (fun _ _ _ h => h) (Or.inl ⟨by rfl, ?hya5⟩) hS ?resta5
      case hya5 => (intro w hSw; go_simp; try with_reducible rfl)
      simp only [List.setIfInBounds_toArray, List.set_cons_zero, List.set_cons_succ]
      refine takeD (i := 6) (d := 40) (v := ?va6) rfl (by rfl) (by kernel_rfl) (by kernel_rfl) (by kernel_rfl) (fun _ _ _ h => h) (Or.inl ⟨by rfl, ?hya6⟩) hS ?resta6
      case hya6 => (intro w hSw; go_simp; try with_reducible rfl)
      simp only [List.setIfInBounds_toArray, List.set_cons_zero, List.set_cons_succ]
      refine takeD (i := 7) (d := 41) (v := ?va7) rfl (by rfl) (by kernel_rfl) (by kernel_rfl) (by kernel_rfl) (fun _ _ _ h => h) (Or.inl ⟨by rfl, ?hya7⟩) hS ?resta7
      case hya7 => (intro w hSw; go_simp; try with_reducible rfl)
      simp only [List.setIfInBounds_toArray, List.set_cons_zero, List.set_cons_succ]
      refine takeD (i := 8) (d := 42) rfl (by rfl) (by kernel_rfl) (by kernel_rfl) (by kernel_rfl) (fun _ _ _ h => h) (yieldsIf_load_mid (by rfl) 36 _ rfl b (off + k * 22) rfl x.cells _ (fun w h => h.2) Try.underlying36 rfl HI2.out) hS ?_
      simp only [List.setIfInBounds_toArray, List.set_cons_zero, List.set_cons_succ]
      refine wpAnyH_ready (rs := [4]) (by kernel_rfl) (by simp) ?_
      refine AllReadyH.cons rfl (fun K hK => ?_) AllReadyH.nil
      rw [if_pos (by rfl)]
      have HK := Lib.hid hK
      clear hK
      go_simp
      refine (K1.out wd).mono ?_
      rintro e wn4 ⟨rfl, hbn⟩
      replace hS := (⟨range_keep hS.1 hbn, range_keep hS.2 hbn⟩ : (fun w' : World => w'.rangeAt b7 (off7 + k * 22) x.cells ∧ w'.rangeAt b (off + k * 22) x.cells) wn4)
      replace HW := Lib.hid (HW.out.trans (hbn.mono HW.out.size))
      replace HM := Lib.hid (HM.out.keep hbn)
      clear hbn
      go_wp2_with fail
      refine HK.out.out _ _ hS (fun _ => ?_)
      clear HK K
      refine wpAnyH_ready (rs := [9]) (by kernel_rfl) (by simp) ?_
      refine AllReadyH.cons rfl (fun K hK => ?_) AllReadyH.nil
      rw [if_pos (by rfl)]
      have HK := Lib.hid hK
      clear hK
      go_simp
      refine (K2.out wn4).mono ?_
      rintro e wn9 ⟨rfl, hbn⟩
      replace hS := (⟨range_keep hS.1 hbn, range_keep hS.2 hbn⟩ : (fun w' : World => w'.rangeAt b7 (off7 + k * 22) x.cells ∧ w'.rangeAt b (off + k * 22) x.cells) wn9)
      replace HW := Lib.hid (HW.out.trans (hbn.mono HW.out.size))
      replace HM := Lib.hid (HM.out.keep hbn)
      clear hbn
      go_wp2_with fail
      refine HK.out.out _ _ hS (fun _ => ?_)
      clear HK K
      refine takeD (i := 10) (d := 44) (v := .bool false) rfl (by rfl) (by kernel_rfl) (by kernel_rfl) (by kernel_rfl) (fun _ _ _ h => h) (Or.inl ⟨by rfl, ?hya10⟩) hS ?resta10
      case hya10 => (intro w hSw; go_simp; try with_reducible rfl)
      simp only [List.setIfInBounds_toArray, List.set_cons_zero, List.set_cons_succ]
      refine wpAnyH_done (by kernel_rfl) ?_ _
      clear hS K1 K2 HI HI2
      go_wp2_with fail
      exact ⟨⟨k + 1, by omega, by go_num, HM, HW⟩, by simp [intOf]; omega⟩
    · clear HOK
      have hr1 : wr.rangeAt Bc 0 c.call := range_keep HC0.out HW.out
      clear HC0
      go_upto_region 9 with fail
      have hS : (fun w' : World => w'.rangeAt Bc 0 c.call) wr.drew := hr1
      refine wp_region_held_drew (S := fun w' : World => w'.rangeAt Bc 0 c.call) (by kernel_rfl) hS (fun _ => ?_)
      replace HW := Lib.hid (show Below w0.heap.size w0 wr.drew from HW.out.drew)
      replace HM := Lib.hid (HM.out.keep (Below.refl wr.heap.size wr).drew)
      generalize wr.drew = wd at *
      clear hr1 wr
      refine takeD (i := 0) (d := 45) (v := ?vb0) rfl (by rfl) (by kernel_rfl) (by kernel_rfl) (by kernel_rfl) (fun _ _ _ h => h) (Or.inl ⟨by rfl, ?hyb0⟩) hS ?restb0
      case hyb0 => (intro w hSw; go_simp; try with_reducible rfl)
      simp only [List.setIfInBounds_toArray, List.set_cons_zero, List.set_cons_succ]
      refine takeD (i := 2) (d := 47) (v := ?vb2) rfl (by rfl) (by kernel_rfl) (by kernel_rfl) (by kernel_rfl) (fun _ _ _ h => h) (Or.inl ⟨by rfl, ?hyb2⟩) hS ?restb2
      case hyb2 => (intro w hSw; go_simp; try with_reducible rfl)
      simp only [List.setIfInBounds_toArray, List.set_cons_zero, List.set_cons_succ]
      refine wpAnyH_ready (rs := [1]) (by kernel_rfl) (by simp) ?_
      refine AllReadyH.cons rfl (fun K hK => ?_) AllReadyH.nil
      rw [if_pos (by rfl)]
      have HK := Lib.hid hK
      clear hK
      go_simp
      refine (KSE.out _ wd HM.out).mono ?_
      rintro e wn1 ⟨rfl, hbn⟩
      replace hS := (range_keep hS hbn : (fun w' : World => w'.rangeAt Bc 0 c.call) wn1)
      replace HW := Lib.hid (HW.out.trans (hbn.mono HW.out.size))
      replace HM := Lib.hid (HM.out.keep hbn)
      clear hbn
      go_wp2_with fail
      refine HK.out.out _ _ hS (fun _ => ?_)
      clear HK K
      refine wpAnyH_ready (rs := [3]) (by kernel_rfl) (by simp) ?_
      refine AllReadyH.cons rfl (fun K hK => ?_) AllReadyH.nil
      rw [if_pos (by rfl)]
      have HK := Lib.hid hK
      clear hK
      go_simp
      refine (KSR.out _ wn1 (HV0.out.keep HW.out)).mono ?_
      rintro e wn3 ⟨rfl, hbn⟩
      replace hS := (range_keep hS hbn : (fun w' : World => w'.rangeAt Bc 0 c.call) wn3)
      replace HW := Lib.hid (HW.out.trans (hbn.mono HW.out.size))
      replace HM := Lib.hid (HM.out.keep hbn)
      clear hbn
      go_wp2_with fail
      refine HK.out.out _ _ hS (fun _ => ?_)
      clear HK K
      refine takeD (i := 4) (d := 49) (v := .bool true) rfl (by rfl) (by kernel_rfl) (by kernel_rfl) (by kernel_rfl) (fun _ _ _ h => h) (Or.inl ⟨by rfl, ?hyb4⟩) hS ?restb4
      case hyb4 => (intro w hSw; go_simp; try with_reducible rfl)
      simp only [List.setIfInBounds_toArray, List.set_cons_zero, List.set_cons_succ]
      refine takeD (i := 5) (d := 50) (v := .bool true) rfl (by rfl) (by kernel_rfl) (by kernel_rfl) (by kernel_rfl) (fun _ _ _ h => h) (Or.inl ⟨by rfl, ?hyb5⟩) hS ?restb5
      case hyb5 => (intro w hSw; go_simp; try with_reducible rfl)
      simp only [List.setIfInBounds_toArray, List.set_cons_zero, List.set_cons_succ]
      refine takeD (i := 6) (d := 51) rfl (by rfl) (by kernel_rfl) (by kernel_rfl) (by kernel_rfl) (fun _ _ _ h => h) (yieldsIf_load_mid (by rfl) 33 _ rfl Bc (0) rfl c.call _ (fun w h => h) Try.underlying33 rfl HI3.out) hS ?_
      simp only [List.setIfInBounds_toArray, List.set_cons_zero, List.set_cons_succ]
      refine takeD (i := 8) (d := 53) rfl (by rfl) (by kernel_rfl) (by kernel_rfl) (by kernel_rfl) (fun _ _ _ h => h) (yieldsIf_load_mid (by rfl) 33 _ rfl Bc (0) rfl c.call _ (fun w h => h) Try.underlying33 rfl HI3.out) hS ?_
      simp only [List.setIfInBounds_toArray, List.set_cons_zero, List.set_cons_succ]
      refine wpAnyH_ready (rs := [7]) (by kernel_rfl) (by simp) ?_
      refine AllReadyH.cons rfl (fun K hK => ?_) AllReadyH.nil
      rw [if_pos (by rfl)]
      have HK := Lib.hid hK
      clear hK
      go_simp
      refine (KCE.out wn3).mono ?_
      rintro e wn7 ⟨rfl, hbn⟩
      replace hS := (range_keep hS hbn : (fun w' : World => w'.rangeAt Bc 0 c.call) wn7)
      replace HW := Lib.hid (HW.out.trans (hbn.mono HW.out.size))
      replace HM := Lib.hid (HM.out.keep hbn)
      clear hbn
      go_wp2_with fail
      refine HK.out.out _ _ hS (fun _ => ?_)
      clear HK K
      refine wpAnyH_ready (rs := [9]) (by kernel_rfl) (by simp) ?_
      refine AllReadyH.cons rfl (fun K hK => ?_) AllReadyH.nil
      rw [if_pos (by rfl)]
      have HK := Lib.hid hK
      clear hK
      go_simp
      refine (KCR.out wn7).mono ?_
      rintro e wn9 ⟨rfl, hbn⟩
      replace hS := (range_keep hS hbn : (fun w' : World => w'.rangeAt Bc 0 c.call) wn9)
      replace HW := Lib.hid (HW.out.trans (hbn.mono HW.out.size))
      replace HM := Lib.hid (HM.out.keep hbn)
      clear hbn
      go_wp2_with fail
      refine HK.out.out _ _ hS (fun _ => ?_)
      clear HK K
      refine takeD (i := 10) (d := 55) (v := .bool true) rfl (by rfl) (by kernel_rfl) (by kernel_rfl) (by kernel_rfl) (fun _ _ _ h => h) (Or.inl ⟨by rfl, ?hyb10⟩) hS ?restb10
      case hyb10 => (intro w hSw; go_simp; try with_reducible rfl)
      simp only [List.setIfInBounds_toArray, List.set_cons_zero, List.set_cons_succ]
      refine takeD (i := 11) (d := 56) (v := .bool true) rfl (by rfl) (by kernel_rfl) (by kernel_rfl) (by kernel_rfl) (fun _ _ _ h => h) (Or.inl ⟨by rfl, ?hyb11⟩) hS ?restb11
      case hyb11 => (intro w hSw; go_simp; try with_reducible rfl)
      simp only [List.setIfInBounds_toArray, List.set_cons_zero, List.set_cons_succ]
      refine takeD (i := 12) (d := 57) (v := .bool true) rfl (by rfl) (by kernel_rfl) (by kernel_rfl) (by kernel_rfl) (fun _ _ _ h => h) (Or.inl ⟨by rfl, ?hyb12⟩) hS ?restb12
      case hyb12 => (intro w hSw; go_simp; try with_reducible rfl)
      simp only [List.setIfInBounds_toArray, List.set_cons_zero, List.set_cons_succ]
      refine takeD (i := 13) (d := 58) (v := ?vb13) rfl (by rfl) (by kernel_rfl) (by kernel_rfl) (by kernel_rfl) (fun _ _ _ h => h) (Or.inl ⟨by rfl, ?hyb13⟩) hS ?restb13
      case hyb13 => (intro w hSw; go_simp; try with_reducible rfl)
      simp only [List.setIfInBounds_toArray, List.set_cons_zero, List.set_cons_succ]
      refine takeD (i := 15) (d := 60) (v := ?vb15) rfl (by rfl) (by kernel_rfl) (by kernel_rfl) (by kernel_rfl) (fun _ _ _ h => h) (Or.inl ⟨by rfl, ?hyb15⟩) hS ?restb15
      case hyb15 => (intro w hSw; go_simp; try with_reducible rfl)
      simp only [List.setIfInBounds_toArray, List.set_cons_zero, List.set_cons_succ]
      refine wpAnyH_ready (rs := [14]) (by kernel_rfl) (by simp) ?_
      refine AllReadyH.cons rfl (fun K hK => ?_) AllReadyH.nil
      rw [if_pos (by rfl)]
      have HK := Lib.hid hK
      clear hK
      go_simp
      refine (KNE.out wn9).mono ?_
      rintro e wn14 ⟨rfl, hbn⟩
      replace hS := (range_keep hS hbn : (fun w' : World => w'.rangeAt Bc 0 c.call) wn14)
      replace HW := Lib.hid (HW.out.trans (hbn.mono HW.out.size))
      replace HM := Lib.hid (HM.out.keep hbn)
      clear hbn
      go_wp2_with fail
      refine HK.out.out _ _ hS (fun _ => ?_)
      clear HK K
      refine wpAnyH_ready (rs := [16]) (by kernel_rfl) (by simp) ?_
      refine AllReadyH.cons rfl (fun K hK => ?_) AllReadyH.nil
      rw [if_pos (by rfl)]
      have HK := Lib.hid hK
      clear hK
      go_simp
      refine (KNR.out wn14).mono ?_
      rintro e wn16 ⟨rfl, hbn⟩
      replace hS := (range_keep hS hbn : (fun w' : World => w'.rangeAt Bc 0 c.call) wn16)
      replace HW := Lib.hid (HW.out.trans (hbn.mono HW.out.size))
      replace HM := Lib.hid (HM.out.keep hbn)
      clear hbn
      go_wp2_with fail
      refine HK.out.out _ _ hS (fun _ => ?_)
      clear HK K
      refine takeD (i := 17) (d := 62) (v := .bool true) rfl (by rfl) (by kernel_rfl) (by kernel_rfl) (by kernel_rfl) (fun _ _ _ h => h) (Or.inl ⟨by rfl, ?hyb17⟩) hS ?restb17
      case hyb17 => (intro w hSw; go_simp; try with_reducible rfl)
      simp only [List.setIfInBounds_toArray, List.set_cons_zero, List.set_cons_succ]
      refine takeD (i := 18) (d := 63) (v := .bool true) rfl (by rfl) (by kernel_rfl) (by kernel_rfl) (by kernel_rfl) (fun _ _ _ h => h) (Or.inl ⟨by rfl, ?hyb18⟩) hS ?restb18
      case hyb18 => (intro w hSw; go_simp; try with_reducible rfl)
      simp only [List.setIfInBounds_toArray, List.set_cons_zero, List.set_cons_succ]
      refine takeD (i := 19) (d := 64) (v := .bool true) rfl (by rfl) (by kernel_rfl) (by kernel_rfl) (by kernel_rfl) (fun _ _ _ h => h) (Or.inl ⟨by rfl, ?hyb19⟩) hS ?restb19
      case hyb19 => (intro w hSw; go_simp; try with_reducible rfl)
      simp only [List.setIfInBounds_toArray, List.set_cons_zero, List.set_cons_succ]
      refine takeD (i := 20) (d := 65) (v := ?vb20) rfl (by rfl) (by kernel_rfl) (by kernel_rfl) (by kernel_rfl) (fun _ _ _ h => h) (Or.inl ⟨by rfl, ?hyb20⟩) hS ?restb20
      case hyb20 => (intro w hSw; go_simp; try with_reducible rfl)
      simp only [List.setIfInBounds_toArray, List.set_cons_zero, List.set_cons_succ]
      refine takeD (i := 22) (d := 67) (v := ?vb22) rfl (by rfl) (by kernel_rfl) (by kernel_rfl) (by kernel_rfl) (fun _ _ _ h => h) (Or.inl ⟨by rfl, ?hyb22⟩) hS ?restb22
      case hyb22 => (intro w hSw; go_simp; try with_reducible rfl)
      simp only [List.setIfInBounds_toArray, List.set_cons_zero, List.set_cons_succ]
      refine wpAnyH_ready (rs := [21]) (by kernel_rfl) (by simp) ?_
      refine AllReadyH.cons rfl (fun K hK => ?_) AllReadyH.nil
      rw [if_pos (by rfl)]
      have HK := Lib.hid hK
      clear hK
      go_simp
      refine (KME.out wn16).mono ?_
      rintro e wn21 ⟨rfl, hbn⟩
      replace hS := (range_keep hS hbn : (fun w' : World => w'.rangeAt Bc 0 c.call) wn21)
      replace HW := Lib.hid (HW.out.trans (hbn.mono HW.out.size))
      replace HM := Lib.hid (HM.out.keep hbn)
      clear hbn
      go_wp2_with fail
      refine HK.out.out _ _ hS (fun _ => ?_)
      clear HK K
      refine wpAnyH_ready (rs := [23]) (by kernel_rfl) (by simp) ?_
      refine AllReadyH.cons rfl (fun K hK => ?_) AllReadyH.nil
      rw [if_pos (by rfl)]
      have HK := Lib.hid hK
      clear hK
      go_simp
      refine (KMR.out wn21).mono ?_
      rintro e wn23 ⟨rfl, hbn⟩
      replace hS := (range_keep hS hbn : (fun w' : World => w'.rangeAt Bc 0 c.call) wn23)
      replace HW := Lib.hid (HW.out.trans (hbn.mono HW.out.size))
      replace HM := Lib.hid (HM.out.keep hbn)
      clear hbn
      go_wp2_with fail
      refine HK.out.out _ _ hS (fun _ => ?_)
      clear HK K
      refine takeD (i := 24) (d := 69) (v := .bool true) rfl (by rfl) (by kernel_rfl) (by kernel_rfl) (by kernel_rfl) (fun _ _ _ h => h) (Or.inl ⟨by rfl, ?hyb24⟩) hS ?restb24
      case hyb24 => (intro w hSw; go_simp; try with_reducible rfl)
      simp only [List.setIfInBounds_toArray, List.set_cons_zero, List.set_cons_succ]
      refine takeD (i := 25) (d := 70) (v := .bool true) rfl (by rfl) (by kernel_rfl) (by kernel_rfl) (by kernel_rfl) (fun _ _ _ h => h) (Or.inl ⟨by rfl, ?hyb25⟩) hS ?restb25
      case hyb25 => (intro w hSw; go_simp; try with_reducible rfl)
      simp only [List.setIfInBounds_toArray, List.set_cons_zero, List.set_cons_succ]
      refine takeD (i := 26) (d := 71) (v := .bool true) rfl (by rfl) (by kernel_rfl) (by kernel_rfl) (by kernel_rfl) (fun _ _ _ h => h) (Or.inl ⟨by rfl, ?hyb26⟩) hS ?restb26
      case hyb26 => (intro w hSw; go_simp; try with_reducible rfl)
      simp only [List.setIfInBounds_toArray, List.set_cons_zero, List.set_cons_succ]
      refine wpAnyH_ready (rs := [27]) (by kernel_rfl) (by simp) ?_
      refine AllReadyH.cons rfl (fun K hK => ?_) AllReadyH.nil
      rw [if_pos (by rfl)]
      have HK := Lib.hid hK
      clear hK
      go_simp
      refine (KA.out wn23).mono ?_
      rintro e wn27 ⟨rfl, hbn⟩
      replace hS := (range_keep hS hbn : (fun w' : World => w'.rangeAt Bc 0 c.call) wn27)
      replace HW := Lib.hid (HW.out.trans (hbn.mono HW.out.size))
      replace HM := Lib.hid (HM.out.keep hbn)
      clear hbn
      go_wp2_with fail
      refine HK.out.out _ _ hS (fun _ => ?_)
      clear HK K
      refine takeD (i := 28) (d := 73) (v := .bool true) rfl (by rfl) (by kernel_rfl) (by kernel_rfl) (by kernel_rfl) (fun _ _ _ h => h) (Or.inl ⟨by rfl, ?hyb28⟩) hS ?restb28
      case hyb28 => (intro w hSw; go_simp; try with_reducible rfl)
      simp only [List.setIfInBounds_toArray, List.set_cons_zero, List.set_cons_succ]
      refine takeD (i := 29) (d := 6) (v := .bool true) rfl (by rfl) (by kernel_rfl) (by kernel_rfl) (by kernel_rfl) (fun _ _ _ h => h) (Or.inl ⟨by rfl, ?hyb29⟩) hS ?restb29
      case hyb29 => (intro w hSw; go_simp; try with_reducible rfl)
      simp only [List.setIfInBounds_toArray, List.set_cons_zero, List.set_cons_succ]
      refine wpAnyH_done (by kernel_rfl) ?_ _
      have HF := Lib.hid (HB0.out.trans (HW.out.mono (Nat.le_of_lt hz)))
      clear hS
      go_wp2_with fail
      go_ret
      exact ⟨rfl, by rw [HBc.out]; exact HF.out⟩
end Go.Proofs.Ytcphneofdjelpaa.W
