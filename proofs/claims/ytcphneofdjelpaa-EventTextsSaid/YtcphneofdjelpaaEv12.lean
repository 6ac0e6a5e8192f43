/- A note as text: the walk. -/
import Derived.Test.YtcphneofdjelpaaEv11
namespace Go.Proofs.Ytcphneofdjelpaa.W
open Go.RowKit Go.Proofs.Ytcphneofdjelpaa.Pl

set_option maxRecDepth 100000 in
set_option maxHeartbeats 4000000 in
theorem kTextE (x : NV) (w : World) (h : x.ok) :
    Calls Try.prog 14 #[.agg x.cells.toArray] w fun e w' => e = .returned (.string (bs (noteT x))) ∧ Below w.heap.size w w' := by
  have K1 := Lib.hid (fun w1 => kText x.a0 w1 h.a1 h.a2)
  have K2 := Lib.hid (fun w1 => kNameE x.kind w1 _ rfl)
  have hp0 : Pw w x w.heap.size (w.alloc (.cells x.cells.toArray 40)) := ⟨fun j u hu => by rw [World.cell?_alloc_at _ _ _ _ rfl]; simpa using hu, (Below.refl w.heap.size w).alloc (Nat.le_refl _) _, by simp⟩
  have K3 := Lib.hid (fun w1 => kText x.id w1 h.i1 h.i2)
  have K4 := Lib.hid (fun w1 => kText x.what w1 h.w1 h.w2)
  have K5 := Lib.hid (fun w1 => kCommandE x.what w1 _ rfl)
  have K6 := Lib.hid (fun w1 => kErrno x.e w1 _ rfl)
  have K7 := Lib.hid (fun w1 => kCallE x w1 h.n h.s h.c1 h.c2)
  have K8 := Lib.hid (fun w1 => kProbe x.what w1)
  obtain ⟨r, hr⟩ : ∃ r, r = noteT x := ⟨_, rfl⟩
  have HL : Hid (r.length ≤ 1105) := Lib.hid (by rw [hr]; exact noteT_len h)
  rw [← hr]
  have HR := Lib.hid hr
  clear h hr
  unfold NV.cells
  go_enter Try.func14, Try.ntmps14
  go_wp2_with fail
  rw [show (w.alloc (Obj.cells #[.int .i64 x.a0, .int .i64 x.kind, .string x.proj, .int .i64 x.ck, .string x.cn, .int .i64 x.ci, .string x.s0, .string x.s1, .string x.s2, .int .i64 x.s3, .string x.s4, .slice x.na x.nl x.nc, .slice x.va x.vl x.vc, .string x.h0, .int .i64 x.h1, .int .i64 x.h2, .int .i64 x.h3, .int .i64 x.rs, .int .i64 x.tr, .int .i64 x.id, .int .i64 x.what, .int .i64 x.e] 40)) = w.alloc (.cells x.cells.toArray 40) from rfl]
  generalize w.alloc (.cells x.cells.toArray 40) = w0 at *
  obtain ⟨B, hB⟩ : ∃ B, w.heap.size = B := ⟨_, rfl⟩
  rw [hB] at hp0 ⊢
  have HB := Lib.hid hB
  clear hB
  have c0 : w0.cell? ⟨B, 0, none⟩ = some (.int .i64 x.a0) := hp0.box 0 _ rfl
  have c1 : w0.cell? ⟨B, 1, none⟩ = some (.int .i64 x.kind) := hp0.box 1 _ rfl
  have hs0 := hp0.lt
  go_cut [3] (fun s3 wx => ∃ g, s3 = .pointer (some ⟨g, 0, none⟩) ∧ TxSt w x B g [txt x.a0, wordN kindL x.kind] wx)
  case first =>
    go_region_with (first
      | (go_at_call 25; refine (keepW (K1.out _) (by first | assumption | exact hp0.drew | exact (hp0.alloc _).drew | exact Pw.alloc (by assumption) _)).mono ?_; rintro e w1 ⟨rfl, hb1, hp1, hz1, hc1, hc2⟩; obtain ⟨hcc1, hff1⟩ := bcellE hb1; have hs1 := hb1.size; (try simp at hs1); (try (have hx1 : w0.heap.size < w1.heap.size := by omega)); (try (have hx3 : w2.heap.size < w1.heap.size := by omega)))
      | (go_at_call 20; refine (keepW (K2.out _) (by first | assumption | exact hp0.drew | exact (hp0.alloc _).drew | exact Pw.alloc (by assumption) _)).mono ?_; rintro e w2 ⟨rfl, hb2, hp2, hz2, hc3, hc4⟩; obtain ⟨hcc2, hff2⟩ := bcellE hb2; have hs2 := hb2.size; (try simp at hs2); (try (have hx2 : w0.heap.size < w2.heap.size := by omega)); (try (have hx3 : w1.heap.size < w2.heap.size := by omega))))
    all_goals
      go_wp2_with fail
      go_meet
      first
        | with_reducible exact ⟨_, rfl, endA2 hp1⟩
        | with_reducible exact ⟨_, rfl, endA2 hp2⟩
        | with_reducible exact ⟨_, rfl, endB2 hp1⟩
        | with_reducible exact ⟨_, rfl, endB2 hp2⟩
        | with_reducible exact ⟨_, rfl, endC2 hp1 (slot1 hb1) hz2⟩
        | with_reducible exact ⟨_, rfl, endC2 hp2 (slot1 hb2) hz1⟩
        | with_reducible exact ⟨_, rfl, endC2 hp1 (slot2 (slot1d hb2) hb1) hs0⟩
        | with_reducible exact ⟨_, rfl, endC2 hp2 (slot2 (slot1d hb1) hb2) hs0⟩
  case rest =>
    obtain ⟨g, rfl, hT⟩ := hcut
    have c19 : wc.cell? ⟨B, 19, none⟩ = some (.int .i64 x.id) := hT.pw.box 19 _ rfl
    have HT := Lib.hid hT
    clear hT c0 c1 hs0 hp0 K1 K2
    go_wp2_with fail
    refine (K3.out _).mono ?_
    rintro e w1 ⟨rfl, hb⟩
    have HT1 := Lib.hid (HT.out.keep hb)
    clear HT hb c19
    have c1 : w1.cell? ⟨B, 1, none⟩ = some (.int .i64 x.kind) := HT1.out.pw.box 1 _ rfl
    go_upto_region 5 with fail
    by_cases k1 : x.kind = 1
    · have b1 : (x.kind == 1) = true := beqT k1
      have b2 : (x.kind == 2) = false := beqF (by omega)
      have b9 : (x.kind == 9) = false := beqF (by omega)
      have b4 : (x.kind == 4) = false := beqF (by omega)
      have b5 : (x.kind == 5) = false := beqF (by omega)
      have b6 : (x.kind == 6) = false := beqF (by omega)
      have b7 : (x.kind == 7) = false := beqF (by omega)
      have G1 := Lib.hid k1
      clear k1
      have c2 : w1.cell? ⟨B, 2, none⟩ = some (.string x.proj) := HT1.out.pw.box 2 _ rfl
      have c20 : w1.cell? ⟨B, 20, none⟩ = some (.int .i64 x.what) := HT1.out.pw.box 20 _ rfl
      have HE : Hid (r = Lib.join ([txt x.a0, wordN kindL x.kind] ++ [x.proj.data.toList, wordN cmdL x.what] ++ [errT x.e]) [32]) := Lib.hid (by rw [HR.out, noteT_1 G1.out])
      go_wp2_with fail
      go_region_with (first
        | (go_at_call 22; refine (keepT (K5.out _) HT1.out.drew).mono ?_; rintro e w2 ⟨rfl, hT2, hc2, hc20⟩; have HT2 := Lib.hid hT2; clear hT2)
        | (go_at_call 26; refine (add2 HT2.out (by simp)).mono ?_; rintro e w3 ⟨rfl, hT3⟩; have HT3 := Lib.hid hT3; clear hT3))
      all_goals
        have c21 : w3.cell? ⟨B, 21, none⟩ = some (.int .i64 x.e) := HT3.out.pw.box 21 _ rfl
        go_wp2_with fail
        refine (K6.out _).mono ?_
        rintro e w4 ⟨rfl, hb4⟩
        have HT4 := Lib.hid (HT3.out.keep hb4)
        clear hb4 c21
        go_wp2_with fail
        refine (add1 HT4.out (by simp)).mono ?_
        rintro e w5 ⟨rfl, hT5⟩
        have HT5 := Lib.hid hT5
        clear hT5
        obtain ⟨v, hv, hj⟩ := joinSt (ws := [txt x.a0, wordN kindL x.kind] ++ [x.proj.data.toList, wordN cmdL x.what] ++ [errT x.e]) HT5.out (by simp) (by simp) (by rw [← HE.out]; exact Nat.le_trans HL.out (by decide))
        have HJ := Lib.hid hj
        clear hj
        go_wp2_with fail
        refine HJ.out.mono ?_
        rintro e w9 ⟨rfl, hb9⟩
        go_wp2_with fail
        go_ret
        exact ⟨by rw [HE.out]; rfl, by rw [HB.out]; exact hb9⟩
    have b1 : (x.kind == 1) = false := beqF k1
    by_cases k2 : x.kind = 2
    · have b2 : (x.kind == 2) = true := beqT k2
      have b9 : (x.kind == 9) = false := beqF (by omega)
      have b4 : (x.kind == 4) = false := beqF (by omega)
      have b5 : (x.kind == 5) = false := beqF (by omega)
      have b6 : (x.kind == 6) = false := beqF (by omega)
      have b7 : (x.kind == 7) = false := beqF (by omega)
      have G1 := Lib.hid k1
      clear k1
      have G2 := Lib.hid k2
      clear k2
      have hcall : w1.rangeAt B 3 x.call := fun j v hv => HT1.out.pw.box (3 + j) v (x.callAt j v hv)
      have hinfo3 : (Try.prog.info? 33).map (·.size) = some x.call.length := by rw [NV.callLen]; kernel_rfl
      have HRO := Lib.hid hcall
      have HI3 := Lib.hid hinfo3
      clear hcall hinfo3
      dsimp only [NV.call] at HRO HI3
      go_wp2_with (first
        | (with_reducible refine wpList_load_mid rfl 33 _ rfl B 3 rfl _ _ HRO.out Try.underlying33 rfl HI3.out ?_))
      refine (K7.out _).mono ?_
      rintro e w2 ⟨rfl, hb2⟩
      have HT2 := Lib.hid (HT1.out.keep hb2)
      clear hb2 HRO
      go_wp2_with fail
      refine (add2 HT2.out (by simp)).mono ?_
      rintro e w3 ⟨rfl, hT3⟩
      have HT3 := Lib.hid hT3
      have c21 : w3.cell? ⟨B, 21, none⟩ = some (.int .i64 x.e) := hT3.pw.box 21 _ rfl
      clear hT3
      go_wp2_with fail
      refine (K6.out _).mono ?_
      rintro e w4 ⟨rfl, hb4⟩
      have HT4 := Lib.hid (HT3.out.keep hb4)
      clear hb4 c21
      go_wp2_with fail
      refine (add1 HT4.out (by simp)).mono ?_
      rintro e w5 ⟨rfl, hT5⟩
      have HT5 := Lib.hid hT5
      clear hT5
      have HE : Hid (r = Lib.join ([txt x.a0, wordN kindL x.kind] ++ [callT x.ck x.cn x.s0 x.ci, txt x.id] ++ [errT x.e]) [32]) := Lib.hid (by rw [HR.out, noteT_2 (.inl G2.out)])
      obtain ⟨v, hv, hj⟩ := joinSt (ws := [txt x.a0, wordN kindL x.kind] ++ [callT x.ck x.cn x.s0 x.ci, txt x.id] ++ [errT x.e]) HT5.out (by simp) (by simp) (by rw [← HE.out]; exact Nat.le_trans HL.out (by decide))
      have HJ := Lib.hid hj
      clear hj
      go_wp2_with fail
      refine HJ.out.mono ?_
      rintro e w9 ⟨rfl, hb9⟩
      go_wp2_with fail
      go_ret
      exact ⟨by rw [HE.out]; rfl, by rw [HB.out]; exact hb9⟩
    have b2 : (x.kind == 2) = false := beqF k2
    by_cases k9 : x.kind = 9
    · have b9 : (x.kind == 9) = true := beqT k9
      have b4 : (x.kind == 4) = false := beqF (by omega)
      have b5 : (x.kind == 5) = false := beqF (by omega)
      have b6 : (x.kind == 6) = false := beqF (by omega)
      have b7 : (x.kind == 7) = false := beqF (by omega)
      have G1 := Lib.hid k1
      clear k1
      have G2 := Lib.hid k2
      clear k2
      have G9 := Lib.hid k9
      clear k9
      have hcall : w1.rangeAt B 3 x.call := fun j v hv => HT1.out.pw.box (3 + j) v (x.callAt j v hv)
      have hinfo3 : (Try.prog.info? 33).map (·.size) = some x.call.length := by rw [NV.callLen]; kernel_rfl
      have HRO := Lib.hid hcall
      have HI3 := Lib.hid hinfo3
      clear hcall hinfo3
      dsimp only [NV.call] at HRO HI3
      go_wp2_with (first
        | (with_reducible refine wpList_load_mid rfl 33 _ rfl B 3 rfl _ _ HRO.out Try.underlying33 rfl HI3.out ?_))
      refine (K7.out _).mono ?_
      rintro e w2 ⟨rfl, hb2⟩
      have HT2 := Lib.hid (HT1.out.keep hb2)
      clear hb2 HRO
      go_wp2_with fail
      refine (add2 HT2.out (by simp)).mono ?_
      rintro e w3 ⟨rfl, hT3⟩
      have HT3 := Lib.hid hT3
      have c21 : w3.cell? ⟨B, 21, none⟩ = some (.int .i64 x.e) := hT3.pw.box 21 _ rfl
      clear hT3
      go_wp2_with fail
      refine (K6.out _).mono ?_
      rintro e w4 ⟨rfl, hb4⟩
      have HT4 := Lib.hid (HT3.out.keep hb4)
      clear hb4 c21
      go_wp2_with fail
      refine (add1 HT4.out (by simp)).mono ?_
      rintro e w5 ⟨rfl, hT5⟩
      have HT5 := Lib.hid hT5
      clear hT5
      have HE : Hid (r = Lib.join ([txt x.a0, wordN kindL x.kind] ++ [callT x.ck x.cn x.s0 x.ci, txt x.id] ++ [errT x.e]) [32]) := Lib.hid (by rw [HR.out, noteT_2 (.inr G9.out)])
      obtain ⟨v, hv, hj⟩ := joinSt (ws := [txt x.a0, wordN kindL x.kind] ++ [callT x.ck x.cn x.s0 x.ci, txt x.id] ++ [errT x.e]) HT5.out (by simp) (by simp) (by rw [← HE.out]; exact Nat.le_trans HL.out (by decide))
      have HJ := Lib.hid hj
      clear hj
      go_wp2_with fail
      refine HJ.out.mono ?_
      rintro e w9 ⟨rfl, hb9⟩
      go_wp2_with fail
      go_ret
      exact ⟨by rw [HE.out]; rfl, by rw [HB.out]; exact hb9⟩
    have b9 : (x.kind == 9) = false := beqF k9
    by_cases k4 : x.kind = 4
    · have b4 : (x.kind == 4) = true := beqT k4
      have b5 : (x.kind == 5) = false := beqF (by omega)
      have b6 : (x.kind == 6) = false := beqF (by omega)
      have b7 : (x.kind == 7) = false := beqF (by omega)
      have G1 := Lib.hid k1
      clear k1
      have G2 := Lib.hid k2
      clear k2
      have G9 := Lib.hid k9
      clear k9
      have G4 := Lib.hid k4
      clear k4
      have c21 : w1.cell? ⟨B, 21, none⟩ = some (.int .i64 x.e) := HT1.out.pw.box 21 _ rfl
      go_wp2_with fail
      refine (K6.out _).mono ?_
      rintro e w2 ⟨rfl, hb2⟩
      have HT2 := Lib.hid (HT1.out.keep hb2)
      clear hb2
      go_wp2_with fail
      refine (add1 HT2.out (by simp)).mono ?_
      rintro e w3 ⟨rfl, hT3⟩
      have HT3 := Lib.hid hT3
      clear hT3
      have HE : Hid (r = Lib.join ([txt x.a0, wordN kindL x.kind] ++ [errT x.e]) [32]) := Lib.hid (by rw [HR.out, noteT_4 G4.out])
      obtain ⟨v, hv, hj⟩ := joinSt (ws := [txt x.a0, wordN kindL x.kind] ++ [errT x.e]) HT3.out (by simp) (by simp) (by rw [← HE.out]; exact Nat.le_trans HL.out (by decide))
      have HJ := Lib.hid hj
      clear hj
      go_wp2_with fail
      refine HJ.out.mono ?_
      rintro e w9 ⟨rfl, hb9⟩
      go_wp2_with fail
      go_ret
      exact ⟨by rw [HE.out]; rfl, by rw [HB.out]; exact hb9⟩
    have b4 : (x.kind == 4) = false := beqF k4
    by_cases k5 : x.kind = 5
    · have b5 : (x.kind == 5) = true := beqT k5
      have b6 : (x.kind == 6) = false := beqF (by omega)
      have b7 : (x.kind == 7) = false := beqF (by omega)
      have G1 := Lib.hid k1
      clear k1
      have G2 := Lib.hid k2
      clear k2
      have G9 := Lib.hid k9
      clear k9
      have G4 := Lib.hid k4
      clear k4
      have G5 := Lib.hid k5
      clear k5
      have c20 : w1.cell? ⟨B, 20, none⟩ = some (.int .i64 x.what) := HT1.out.pw.box 20 _ rfl
      go_wp2_with fail
      refine (K4.out _).mono ?_
      rintro e w2 ⟨rfl, hb2⟩
      have HT2 := Lib.hid (HT1.out.keep hb2)
      clear hb2
      go_wp2_with fail
      refine (add2 HT2.out (by simp)).mono ?_
      rintro e w3 ⟨rfl, hT3⟩
      have HT3 := Lib.hid hT3
      clear hT3
      have HE : Hid (r = Lib.join ([txt x.a0, wordN kindL x.kind] ++ [txt x.id, txt x.what]) [32]) := Lib.hid (by rw [HR.out, noteT_5 G5.out])
      obtain ⟨v, hv, hj⟩ := joinSt (ws := [txt x.a0, wordN kindL x.kind] ++ [txt x.id, txt x.what]) HT3.out (by simp) (by simp) (by rw [← HE.out]; exact Nat.le_trans HL.out (by decide))
      have HJ := Lib.hid hj
      clear hj
      go_wp2_with fail
      refine HJ.out.mono ?_
      rintro e w9 ⟨rfl, hb9⟩
      go_wp2_with fail
      go_ret
      exact ⟨by rw [HE.out]; rfl, by rw [HB.out]; exact hb9⟩
    have b5 : (x.kind == 5) = false := beqF k5
    by_cases k6 : x.kind = 6
    · have b6 : (x.kind == 6) = true := beqT k6
      have b7 : (x.kind == 7) = false := beqF (by omega)
      have G1 := Lib.hid k1
      clear k1
      have G2 := Lib.hid k2
      clear k2
      have G9 := Lib.hid k9
      clear k9
      have G4 := Lib.hid k4
      clear k4
      have G5 := Lib.hid k5
      clear k5
      have G6 := Lib.hid k6
      clear k6
      go_wp2_with fail
      refine (add1 HT1.out (by simp)).mono ?_
      rintro e w3 ⟨rfl, hT3⟩
      have HT3 := Lib.hid hT3
      clear hT3
      have HE : Hid (r = Lib.join ([txt x.a0, wordN kindL x.kind] ++ [txt x.id]) [32]) := Lib.hid (by rw [HR.out, noteT_6 G6.out])
      obtain ⟨v, hv, hj⟩ := joinSt (ws := [txt x.a0, wordN kindL x.kind] ++ [txt x.id]) HT3.out (by simp) (by simp) (by rw [← HE.out]; exact Nat.le_trans HL.out (by decide))
      have HJ := Lib.hid hj
      clear hj
      go_wp2_with fail
      refine HJ.out.mono ?_
      rintro e w9 ⟨rfl, hb9⟩
      go_wp2_with fail
      go_ret
      exact ⟨by rw [HE.out]; rfl, by rw [HB.out]; exact hb9⟩
    have b6 : (x.kind == 6) = false := beqF k6
    by_cases k7 : x.kind = 7
    · have b7 : (x.kind == 7) = true := beqT k7
      have G1 := Lib.hid k1
      clear k1
      have G2 := Lib.hid k2
      clear k2
      have G9 := Lib.hid k9
      clear k9
      have G4 := Lib.hid k4
      clear k4
      have G5 := Lib.hid k5
      clear k5
      have G6 := Lib.hid k6
      clear k6
      have G7 := Lib.hid k7
      clear k7
      have c20 : w1.cell? ⟨B, 20, none⟩ = some (.int .i64 x.what) := HT1.out.pw.box 20 _ rfl
      go_wp2_with fail
      refine (K8.out _).mono ?_
      rintro e w2 ⟨rfl, rfl⟩
      go_wp2_with fail
      refine (add2 HT1.out (by simp)).mono ?_
      rintro e w3 ⟨rfl, hT3⟩
      have HT3 := Lib.hid hT3
      clear hT3
      have HE : Hid (r = Lib.join ([txt x.a0, wordN kindL x.kind] ++ [txt x.id, probeT x.what]) [32]) := Lib.hid (by rw [HR.out, noteT_7 G7.out])
      obtain ⟨v, hv, hj⟩ := joinSt (ws := [txt x.a0, wordN kindL x.kind] ++ [txt x.id, probeT x.what]) HT3.out (by simp) (by simp) (by rw [← HE.out]; exact Nat.le_trans HL.out (by decide))
      have HJ := Lib.hid hj
      clear hj
      go_wp2_with fail
      refine HJ.out.mono ?_
      rintro e w9 ⟨rfl, hb9⟩
      go_wp2_with fail
      go_ret
      exact ⟨by rw [HE.out]; rfl, by rw [HB.out]; exact hb9⟩
    have b7 : (x.kind == 7) = false := beqF k7
    have G1 := Lib.hid k1
    clear k1
    have G2 := Lib.hid k2
    clear k2
    have G9 := Lib.hid k9
    clear k9
    have G4 := Lib.hid k4
    clear k4
    have G5 := Lib.hid k5
    clear k5
    have G6 := Lib.hid k6
    clear k6
    have G7 := Lib.hid k7
    clear k7
    have HE : Hid (r = Lib.join ([txt x.a0, wordN kindL x.kind]) [32]) := Lib.hid (by rw [HR.out, noteT_0 G1.out G2.out G9.out G4.out G5.out G6.out G7.out])
    obtain ⟨v, hv, hj⟩ := joinSt (ws := [txt x.a0, wordN kindL x.kind]) HT1.out (by simp) (by simp) (by rw [← HE.out]; exact Nat.le_trans HL.out (by decide))
    have HJ := Lib.hid hj
    clear hj
    go_wp2_with fail
    refine HJ.out.mono ?_
    rintro e w9 ⟨rfl, hb9⟩
    go_wp2_with fail
    go_ret
    exact ⟨by rw [HE.out]; rfl, by rw [HB.out]; exact hb9⟩

end Go.Proofs.Ytcphneofdjelpaa.W
