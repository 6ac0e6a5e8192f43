/- The reference's call as text. -/
import Derived.Test.YtcphneofdjelpaaEv18
namespace Go.Proofs.Ytcphneofdjelpaa.W
open Go.RowKit Go.Proofs.Ytcphneofdjelpaa.Pl

set_option maxRecDepth 100000 in
set_option maxHeartbeats 8000000 in
theorem kCallR (x : NV) (w : World) (hcn : x.cn.size ≤ 200) (hs0 : x.s0.size ≤ 200) (h1 : -9223372036854775808 ≤ x.ci) (h2 : x.ci ≤ 9223372036854775807) :
    Calls Try.prog 19 #[.agg x.call.toArray] w fun e w' => e = .returned (.string (bs (callT x.ck x.cn x.s0 x.ci))) ∧ Below w.heap.size w w' := by
  have HT := Lib.hid (fun (w1 : World) => kRefText x.ci w1 h1 h2)
  obtain ⟨r, hr⟩ : ∃ r, r = callT x.ck x.cn x.s0 x.ci := ⟨_, rfl⟩
  rw [← hr]
  have HR := Lib.hid hr
  have hlen : (txt x.ci).length ≤ 20 := txt_len h1 h2
  have HBB := Lib.hid (fun A B : Obj => ((Below.refl w.heap.size w).alloc (Nat.le_refl _) A).alloc (by simp) B)
  have HBA := Lib.hid (fun A : Obj => ((Below.refl w.heap.size w).alloc (Nat.le_refl _) A))
  clear hr h1 h2
  unfold NV.call
  obtain ⟨a0, kind, proj, ck, cn, ci, s0, s1, s2, s3, s4, na, nl, nc, va, vl, vc, q0, q1, q2, q3, rs, tr, id, what, e⟩ := x
  dsimp only at *
  by_cases ha : ck < 1
  · have HE : Hid (r = [63]) := Lib.hid (by rw [HR.out, callT, if_pos (Or.inl ha)])
    clear HR hlen HT
    go_enter Try.func19, Try.ntmps19
    go_wp2_with fail
    go_ret
    exact ⟨by rw [HE.out]; rfl, HBA.out _⟩
  by_cases hb : 8 < ck
  · have HE : Hid (r = [63]) := Lib.hid (by rw [HR.out, callT, if_pos (Or.inr hb)])
    clear HR hlen HT
    go_enter Try.func19, Try.ntmps19
    go_wp2_with fail
    go_ret
    exact ⟨by rw [HE.out]; rfl, HBA.out _⟩
  · obtain ⟨m, hm1, hm2⟩ := word_nth (l := callL) (n := ck) ha hb
    have hin : (wordN callL ck).length ≤ 8 := by
      rcases (show ck = 1 ∨ ck = 2 ∨ ck = 3 ∨ ck = 4 ∨ ck = 5 ∨ ck = 6 ∨ ck = 7 ∨ ck = 8 by omega) with rfl | rfl | rfl | rfl | rfl | rfl | rfl | rfl <;> decide
    have hout : ¬ (ck < 1 ∨ 8 < ck) := by omega
    obtain ⟨rr, hrr⟩ : ∃ rr, wordN callL ck = rr := ⟨_, rfl⟩
    rw [hrr] at hin hm2
    have HW := Lib.hid hrr
    have HK := Lib.hid (fun (w1 : World) hb => hm1 ▸ kWordR m (w.heap.size + 1) 8 callL w1 9 hb (by decide) rr hm2)
    have hz : (bs rr).size ≤ 8 := by rw [bs_size]; exact hin
    have hz2 : (bs (txt ci)).size ≤ 20 := by rw [bs_size]; exact hlen
    clear hrr hin hlen hm1 hm2
    by_cases hk4 : ck ≤ 4
    · clear HT hz2
      have HE : Hid (r = rr ++ 32 :: cn.data.toList) := Lib.hid (by rw [HR.out, callT, if_neg hout, HW.out, if_pos hk4])
      have hk5 : ck < 5 := by omega
      clear HR hout
      go_enter Try.func19, Try.ntmps19
      go_wp2_with fail
      refine (HK.out _ (heap_new2 _ _ _ _ rfl)).mono ?_
      rintro e w1 ⟨rfl, rfl⟩
      go_wp2_with fail
      go_ret
      exact ⟨by rw [HE.out]; exact bs_three rr _ cn (bs_of cn).symm, HBB.out _ _⟩
    · have hk5n : ¬ ck < 5 := by omega
      by_cases hk5 : ck = 5
      · have hk5b : (ck == 5) = true := beqT hk5
        clear HT hz2
        have HE : Hid (r = rr ++ 32 :: s0.data.toList) := Lib.hid (by rw [HR.out, callT, if_neg hout, HW.out, if_neg hk4, if_pos hk5])
        clear HR hout hk5
        go_enter Try.func19, Try.ntmps19
        go_wp2_with fail
        refine (HK.out _ (heap_new2 _ _ _ _ rfl)).mono ?_
        rintro e w1 ⟨rfl, rfl⟩
        go_wp2_with fail
        go_ret
        exact ⟨by rw [HE.out]; exact bs_three rr _ s0 (bs_of s0).symm, HBB.out _ _⟩
      · have hk5b : (ck == 5) = false := beqF hk5
        have HE : Hid (r = rr ++ 32 :: txt ci) := Lib.hid (by rw [HR.out, callT, if_neg hout, HW.out, if_neg hk4, if_neg hk5])
        clear HR hout
        go_enter Try.func19, Try.ntmps19
        go_wp2_with fail
        refine (HK.out _ (heap_new2 _ _ _ _ rfl)).mono ?_
        rintro e w1 ⟨rfl, rfl⟩
        go_wp2_with fail
        refine (HT.out _).mono ?_
        rintro e w1 ⟨rfl, hb1⟩
        have hb2 := (HBB.out _ _).trans (hb1.mono (by simp; omega))
        clear hb1
        go_wp2_with fail
        go_ret
        exact ⟨by rw [HE.out]; exact bs_three rr _ _ rfl, hb2⟩
end Go.Proofs.Ytcphneofdjelpaa.W
