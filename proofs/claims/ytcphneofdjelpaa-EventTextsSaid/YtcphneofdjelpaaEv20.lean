/- The reference's text of a note. -/
import Derived.Test.YtcphneofdjelpaaEv19
namespace Go.Proofs.Ytcphneofdjelpaa.W
open Go.RowKit Go.Proofs.Ytcphneofdjelpaa.Pl

theorem sp_bs : ({ data := #[32] } : ByteArray) = bs [32] := rfl
theorem cat_k (a l : List UInt8) : bs a ++ { data := #[32] } ++ bs l = bs (a ++ 32 :: l) := by
  rw [sp_bs, bs_append, bs_append, List.append_assoc]; rfl
theorem cat_4 (s e : List UInt8) : bs s ++ ({ data := #[32] } ++ bs e) = bs (s ++ 32 :: e) := by
  rw [sp_bs, bs_append, bs_append]; rfl
theorem cat_5 (s a b : List UInt8) : bs s ++ ({ data := #[32] } ++ bs a) ++ { data := #[32] } ++ bs b = bs (s ++ 32 :: a ++ 32 :: b) := by
  rw [cat_4, cat_k]
theorem cat_2 (s c a e : List UInt8) : bs s ++ { data := #[32] } ++ bs c ++ ({ data := #[32] } ++ bs a) ++ ({ data := #[32] } ++ bs e) = bs (s ++ 32 :: c ++ 32 :: a ++ 32 :: e) := by
  rw [cat_k, cat_4, cat_4]
theorem cat_1 (s c e : List UInt8) (p : ByteArray) : bs s ++ { data := #[32] } ++ p ++ { data := #[32] } ++ bs c ++ ({ data := #[32] } ++ bs e) = bs (s ++ 32 :: p.data.toList ++ 32 :: c ++ 32 :: e) := by
  obtain ⟨l, rfl⟩ : ∃ l, p = bs l := ⟨_, (bs_of p).symm⟩
  rw [bs_data, cat_k, cat_k, cat_4]
theorem jn2 (a b : List UInt8) : Lib.join [a, b] [32] = a ++ 32 :: b := by simp [Lib.join_cons, Lib.joinTail]
theorem jn3 (a b c : List UInt8) : Lib.join ([a, b] ++ [c]) [32] = (a ++ 32 :: b) ++ 32 :: c := by simp [Lib.join_cons, Lib.joinTail]
theorem jn4 (a b c d : List UInt8) : Lib.join ([a, b] ++ [c, d]) [32] = (a ++ 32 :: b) ++ 32 :: c ++ 32 :: d := by simp [Lib.join_cons, Lib.joinTail]
theorem jn5 (a b c d e : List UInt8) : Lib.join ([a, b] ++ [c, d] ++ [e]) [32] = (a ++ 32 :: b) ++ 32 :: c ++ 32 :: d ++ 32 :: e := by simp [Lib.join_cons, Lib.joinTail]
theorem keepX {P : Program} {f : FuncId} {args : Array Go.Value} {w : World} {x : NV} {B : Nat} {W : World} {v : Go.Value} (h : Calls P f args W fun e w' => e = .returned v ∧ Below W.heap.size W w') (hp : Pw w x B W) :
    Calls P f args W fun e w' => e = .returned v ∧ Pw w x B w' ∧ w'.cell? ⟨B, 2, none⟩ = some (.string x.proj) ∧ w'.cell? ⟨B, 20, none⟩ = some (.int .i64 x.what) :=
  h.mono fun _ _ ⟨he, hb⟩ => ⟨he, hp.keep hb, (hp.keep hb).box 2 _ rfl, (hp.keep hb).box 20 _ rfl⟩

set_option maxRecDepth 100000 in
set_option maxHeartbeats 8000000 in
theorem kTextR (x : NV) (w : World) (h : x.ok) :
    Calls Try.prog 15 #[.agg x.cells.toArray] w fun e w' => e = .returned (.string (bs (noteT x))) ∧ Below w.heap.size w w' := by
  have K1 := Lib.hid (fun w1 => kRefText x.a0 w1 h.a1 h.a2)
  have K2 := Lib.hid (fun w1 => kNameR x.kind w1)
  have K3 := Lib.hid (fun w1 => kRefText x.id w1 h.i1 h.i2)
  have K4 := Lib.hid (fun w1 => kRefText x.what w1 h.w1 h.w2)
  have K5 := Lib.hid (fun w1 => kCommandR x.what w1)
  have K6 := Lib.hid (fun w1 => kErrno x.e w1 _ rfl)
  have K7 := Lib.hid (fun w1 => kCallR x w1 h.n h.s h.c1 h.c2)
  have K8 := Lib.hid (fun w1 => kProbeR x.what w1)
  have z1 : (bs (txt x.a0)).size ≤ 20 := by rw [bs_size]; exact txt_len h.a1 h.a2
  have z2 : (bs (wordN kindL x.kind)).size ≤ 10 := by rw [bs_size]; exact wordN_len (by decide) _
  have z3 : (bs (txt x.id)).size ≤ 20 := by rw [bs_size]; exact txt_len h.i1 h.i2
  have z4 : (bs (txt x.what)).size ≤ 20 := by rw [bs_size]; exact txt_len h.w1 h.w2
  have z5 : (bs (wordN cmdL x.what)).size ≤ 10 := by rw [bs_size]; exact wordN_len (by decide) _
  have z6 : (bs (errT x.e)).size ≤ 200 := by rw [bs_size]; exact errT_len _
  have z7 : (bs (callT x.ck x.cn x.s0 x.ci)).size ≤ 220 := by rw [bs_size]; exact callT_len h.n h.s h.c1 h.c2
  have z8 : (bs (probeT x.what)).size ≤ 200 := by rw [bs_size]; exact probeT_len _
  have z9 := h.p
  have hp0 : Pw w x w.heap.size (w.alloc (.cells x.cells.toArray 36)) := ⟨fun j u hu => by rw [World.cell?_alloc_at _ _ _ _ rfl]; simpa using hu, (Below.refl w.heap.size w).alloc (Nat.le_refl _) _, by simp⟩
  obtain ⟨r, hr⟩ : ∃ r, r = noteT x := ⟨_, rfl⟩
  rw [← hr]
  have HR := Lib.hid hr
  clear h hr
  unfold NV.cells
  go_enter Try.func15, Try.ntmps15
  go_wp2_with fail
  rw [show (w.alloc (Obj.cells #[.int .i64 x.a0, .int .i64 x.kind, .string x.proj, .int .i64 x.ck, .string x.cn, .int .i64 x.ci, .string x.s0, .string x.s1, .string x.s2, .int .i64 x.s3, .string x.s4, .slice x.na x.nl x.nc, .slice x.va x.vl x.vc, .string x.h0, .int .i64 x.h1, .int .i64 x.h2, .int .i64 x.h3, .int .i64 x.rs, .int .i64 x.tr, .int .i64 x.id, .int .i64 x.what, .int .i64 x.e] 36)) = w.alloc (.cells x.cells.toArray 36) from rfl]
  generalize w.alloc (.cells x.cells.toArray 36) = w0 at *
  obtain ⟨B, hB⟩ : ∃ B, w.heap.size = B := ⟨_, rfl⟩
  rw [hB] at hp0 ⊢
  have HB := Lib.hid hB
  clear hB
  have c0 : w0.cell? ⟨B, 0, none⟩ = some (.int .i64 x.a0) := hp0.box 0 _ rfl
  have c1 : w0.cell? ⟨B, 1, none⟩ = some (.int .i64 x.kind) := hp0.box 1 _ rfl
  go_cut [3] (fun s3 wx => s3 = .string (bs (txt x.a0 ++ 32 :: wordN kindL x.kind)) ∧ Hid (Pw w x B wx))
  case first =>
    go_region_with (first
      | (go_at_call 30; refine (keepW (K1.out _) (by first | assumption | exact hp0.drew)).mono ?_; rintro e w1 ⟨rfl, _, hp1, hz1, hc1, hc2⟩)
      | (go_at_call 21; refine (keepW (K2.out _) (by first | assumption | exact hp0.drew)).mono ?_; rintro e w2 ⟨rfl, _, hp2, hz2, hc3, hc4⟩))
    all_goals
      go_wp2_with fail
      go_meet
      exact ⟨by rw [cat_k], Lib.hid (by assumption)⟩
  case rest =>
    obtain ⟨rfl, HT⟩ := hcut
    have hz : (bs (txt x.a0 ++ 32 :: wordN kindL x.kind)).size ≤ 40 := by rw [bs_size] at z1 z2 ⊢; rw [List.length_append, List.length_cons]; omega
    obtain ⟨s1, hs1⟩ : ∃ s1, s1 = txt x.a0 ++ 32 :: wordN kindL x.kind := ⟨_, rfl⟩
    rw [← hs1] at hz ⊢
    have HS := Lib.hid hs1
    have c19 : wc.cell? ⟨B, 19, none⟩ = some (.int .i64 x.id) := HT.out.box 19 _ rfl
    clear hs1 c0 c1 hp0 K1 K2 z1 z2
    go_wp2_with fail
    refine (K3.out _).mono ?_
    rintro e w1 ⟨rfl, hb⟩
    have HT1 := Lib.hid (HT.out.keep hb)
    clear HT hb c19
    have c21 : w1.cell? ⟨B, 21, none⟩ = some (.int .i64 x.e) := HT1.out.box 21 _ rfl
    go_wp2_with fail
    refine (K6.out _).mono ?_
    rintro e w2 ⟨rfl, hb2⟩
    have HT2 := Lib.hid (HT1.out.keep hb2)
    clear HT1 hb2 c21
    have c1 : w2.cell? ⟨B, 1, none⟩ = some (.int .i64 x.kind) := HT2.out.box 1 _ rfl
    go_upto_region 4 with fail
    by_cases k1 : x.kind = 1
    · have b1 : (x.kind == 1) = true := beqT k1
      have b2 : (x.kind == 2) = false := beqF (by omega)
      have b9 : (x.kind == 9) = false := beqF (by omega)
      have b4 : (x.kind == 4) = false := beqF (by omega)
      have b5 : (x.kind == 5) = false := beqF (by omega)
      have b6 : (x.kind == 6) = false := beqF (by omega)
      have b7 : (x.kind == 7) = false := beqF (by omega)
      have G1 := Lib.hid k1
      clear k1
      have HE : Hid (r = s1 ++ 32 :: x.proj.data.toList ++ 32 :: wordN cmdL x.what ++ 32 :: errT x.e) := Lib.hid (by rw [HR.out, noteT_1 G1.out, jn5, HS.out])
      clear HR HS
      have c2 : w2.cell? ⟨B, 2, none⟩ = some (.string x.proj) := HT2.out.box 2 _ rfl
      have c20 : w2.cell? ⟨B, 20, none⟩ = some (.int .i64 x.what) := HT2.out.box 20 _ rfl
      go_wp2_with fail
      go_region_with (first
        | (go_at_call 23; refine (keepX (K5.out _) HT2.out.drew).mono ?_; rintro e w3 ⟨rfl, hT3, hc2, hc20⟩; have HF := Lib.hid hT3.below; clear hT3))
      all_goals
        go_wp2_with fail
        go_ret
        exact ⟨by rw [HE.out]; exact congrArg (fun s => Ending.returned (Go.Value.string s)) (cat_1 _ _ _ _), by rw [HB.out]; exact HF.out⟩
    have b1 : (x.kind == 1) = false := beqF k1
    by_cases k2 : x.kind = 2
    · have b2 : (x.kind == 2) = true := beqT k2
      have b9 : (x.kind == 9) = false := beqF (by omega)
      have b4 : (x.kind == 4) = false := beqF (by omega)
      have b5 : (x.kind == 5) = false := beqF (by omega)
      have b6 : (x.kind == 6) = false := beqF (by omega)
      have b7 : (x.kind == 7) = false := beqF (by omega)
      have G1 := Lib.hid k1
      clear k1
      have G2 := Lib.hid k2
      clear k2
      have HE : Hid (r = s1 ++ 32 :: callT x.ck x.cn x.s0 x.ci ++ 32 :: txt x.id ++ 32 :: errT x.e) := Lib.hid (by rw [HR.out, noteT_2 (.inl G2.out), jn5, HS.out])
      clear HR HS
      have hcall : w2.rangeAt B 3 x.call := fun j v hv => HT2.out.box (3 + j) v (x.callAt j v hv)
      have hinfo3 : (Try.prog.info? 33).map (·.size) = some x.call.length := by rw [NV.callLen]; kernel_rfl
      have HRO := Lib.hid hcall
      have HI3 := Lib.hid hinfo3
      clear hcall hinfo3
      dsimp only [NV.call] at HRO HI3
      go_wp2_with (first
        | (with_reducible refine wpList_load_mid rfl 33 _ rfl B 3 rfl _ _ HRO.out Try.underlying33 rfl HI3.out ?_))
      refine (K7.out _).mono ?_
      rintro e w3 ⟨rfl, hb3⟩
      have HF := Lib.hid (HT2.out.keep hb3).below
      clear hb3 HT2 HRO
      go_wp2_with fail
      go_ret
      exact ⟨by rw [HE.out]; exact congrArg (fun s => Ending.returned (Go.Value.string s)) (cat_2 _ _ _ _), by rw [HB.out]; exact HF.out⟩
    have b2 : (x.kind == 2) = false := beqF k2
    by_cases k9 : x.kind = 9
    · have b9 : (x.kind == 9) = true := beqT k9
      have b4 : (x.kind == 4) = false := beqF (by omega)
      have b5 : (x.kind == 5) = false := beqF (by omega)
      have b6 : (x.kind == 6) = false := beqF (by omega)
      have b7 : (x.kind == 7) = false := beqF (by omega)
      have G1 := Lib.hid k1
      clear k1
      have G2 := Lib.hid k2
      clear k2
      have G9 := Lib.hid k9
      clear k9
      have HE : Hid (r = s1 ++ 32 :: callT x.ck x.cn x.s0 x.ci ++ 32 :: txt x.id ++ 32 :: errT x.e) := Lib.hid (by rw [HR.out, noteT_2 (.inr G9.out), jn5, HS.out])
      clear HR HS
      have hcall : w2.rangeAt B 3 x.call := fun j v hv => HT2.out.box (3 + j) v (x.callAt j v hv)
      have hinfo3 : (Try.prog.info? 33).map (·.size) = some x.call.length := by rw [NV.callLen]; kernel_rfl
      have HRO := Lib.hid hcall
      have HI3 := Lib.hid hinfo3
      clear hcall hinfo3
      dsimp only [NV.call] at HRO HI3
      go_wp2_with (first
        | (with_reducible refine wpList_load_mid rfl 33 _ rfl B 3 rfl _ _ HRO.out Try.underlying33 rfl HI3.out ?_))
      refine (K7.out _).mono ?_
      rintro e w3 ⟨rfl, hb3⟩
      have HF := Lib.hid (HT2.out.keep hb3).below
      clear hb3 HT2 HRO
      go_wp2_with fail
      go_ret
      exact ⟨by rw [HE.out]; exact congrArg (fun s => Ending.returned (Go.Value.string s)) (cat_2 _ _ _ _), by rw [HB.out]; exact HF.out⟩
    have b9 : (x.kind == 9) = false := beqF k9
    by_cases k4 : x.kind = 4
    · have b4 : (x.kind == 4) = true := beqT k4
      have b5 : (x.kind == 5) = false := beqF (by omega)
      have b6 : (x.kind == 6) = false := beqF (by omega)
      have b7 : (x.kind == 7) = false := beqF (by omega)
      have G1 := Lib.hid k1
      clear k1
      have G2 := Lib.hid k2
      clear k2
      have G9 := Lib.hid k9
      clear k9
      have G4 := Lib.hid k4
      clear k4
      have HE : Hid (r = s1 ++ 32 :: errT x.e) := Lib.hid (by rw [HR.out, noteT_4 G4.out, jn3, HS.out])
      clear HR HS
      have HF := Lib.hid HT2.out.below
      go_wp2_with fail
      go_ret
      exact ⟨by rw [HE.out]; exact congrArg (fun s => Ending.returned (Go.Value.string s)) (cat_4 _ _), by rw [HB.out]; exact HF.out⟩
    have b4 : (x.kind == 4) = false := beqF k4
    by_cases k5 : x.kind = 5
    · have b5 : (x.kind == 5) = true := beqT k5
      have b6 : (x.kind == 6) = false := beqF (by omega)
      have b7 : (x.kind == 7) = false := beqF (by omega)
      have G1 := Lib.hid k1
      clear k1
      have G2 := Lib.hid k2
      clear k2
      have G9 := Lib.hid k9
      clear k9
      have G4 := Lib.hid k4
      clear k4
      have G5 := Lib.hid k5
      clear k5
      have HE : Hid (r = s1 ++ 32 :: txt x.id ++ 32 :: txt x.what) := Lib.hid (by rw [HR.out, noteT_5 G5.out, jn4, HS.out])
      clear HR HS
      have c20 : w2.cell? ⟨B, 20, none⟩ = some (.int .i64 x.what) := HT2.out.box 20 _ rfl
      go_wp2_with fail
      refine (K4.out _).mono ?_
      rintro e w3 ⟨rfl, hb3⟩
      have HF := Lib.hid (HT2.out.keep hb3).below
      clear hb3 HT2
      go_wp2_with fail
      go_ret
      exact ⟨by rw [HE.out]; exact congrArg (fun s => Ending.returned (Go.Value.string s)) (cat_5 _ _ _), by rw [HB.out]; exact HF.out⟩
    have b5 : (x.kind == 5) = false := beqF k5
    by_cases k6 : x.kind = 6
    · have b6 : (x.kind == 6) = true := beqT k6
      have b7 : (x.kind == 7) = false := beqF (by omega)
      have G1 := Lib.hid k1
      clear k1
      have G2 := Lib.hid k2
      clear k2
      have G9 := Lib.hid k9
      clear k9
      have G4 := Lib.hid k4
      clear k4
      have G5 := Lib.hid k5
      clear k5
      have G6 := Lib.hid k6
      clear k6
      have HE : Hid (r = s1 ++ 32 :: txt x.id) := Lib.hid (by rw [HR.out, noteT_6 G6.out, jn3, HS.out])
      clear HR HS
      have HF := Lib.hid HT2.out.below
      go_wp2_with fail
      go_ret
      exact ⟨by rw [HE.out]; exact congrArg (fun s => Ending.returned (Go.Value.string s)) (cat_4 _ _), by rw [HB.out]; exact HF.out⟩
    have b6 : (x.kind == 6) = false := beqF k6
    by_cases k7 : x.kind = 7
    · have b7 : (x.kind == 7) = true := beqT k7
      have G1 := Lib.hid k1
      clear k1
      have G2 := Lib.hid k2
      clear k2
      have G9 := Lib.hid k9
      clear k9
      have G4 := Lib.hid k4
      clear k4
      have G5 := Lib.hid k5
      clear k5
      have G6 := Lib.hid k6
      clear k6
      have G7 := Lib.hid k7
      clear k7
      have HE : Hid (r = s1 ++ 32 :: txt x.id ++ 32 :: probeT x.what) := Lib.hid (by rw [HR.out, noteT_7 G7.out, jn4, HS.out])
      clear HR HS
      have c20 : w2.cell? ⟨B, 20, none⟩ = some (.int .i64 x.what) := HT2.out.box 20 _ rfl
      go_wp2_with fail
      refine (K8.out _).mono ?_
      rintro e w3 ⟨rfl, hb3⟩
      have HF := Lib.hid (HT2.out.keep hb3).below
      clear hb3 HT2
      go_wp2_with fail
      go_ret
      exact ⟨by rw [HE.out]; exact congrArg (fun s => Ending.returned (Go.Value.string s)) (cat_5 _ _ _), by rw [HB.out]; exact HF.out⟩
    have b7 : (x.kind == 7) = false := beqF k7
    have G1 := Lib.hid k1
    clear k1
    have G2 := Lib.hid k2
    clear k2
    have G9 := Lib.hid k9
    clear k9
    have G4 := Lib.hid k4
    clear k4
    have G5 := Lib.hid k5
    clear k5
    have G6 := Lib.hid k6
    clear k6
    have G7 := Lib.hid k7
    clear k7
    have HE : Hid (r = s1) := Lib.hid (by rw [HR.out, noteT_0 G1.out G2.out G9.out G4.out G5.out G6.out G7.out, jn2, HS.out])
    have HF := Lib.hid HT2.out.below
    clear HR HS
    go_wp2_with fail
    go_ret
    exact ⟨by rw [HE.out]; rfl, by rw [HB.out]; exact HF.out⟩
end Go.Proofs.Ytcphneofdjelpaa.W
