/- A call as text. -/
import Derived.Test.YtcphneofdjelpaaEv8
namespace Go.Proofs.Ytcphneofdjelpaa.W
open Go.RowKit Go.Proofs.Ytcphneofdjelpaa.Pl

/-- a call as text -/
def callT (ck : Int) (cn s0 : ByteArray) (ci : Int) : List UInt8 :=
  if ck < 1 ∨ 8 < ck then [63] else wordN callL ck ++ 32 :: (if ck ≤ 4 then cn.data.toList else if ck = 5 then s0.data.toList else txt ci)
theorem bs_three (a l : List UInt8) (s : ByteArray) (hs : s = bs l) : Ending.returned (.string (bs a ++ { data := #[32] } ++ s)) = Ending.returned (.string (bs (a ++ 32 :: l))) := by
  subst hs
  have h : bs a ++ { data := #[32] } ++ bs l = bs (a ++ 32 :: l) := by
    rw [show ({ data := #[32] } : ByteArray) = bs [32] from rfl, bs_append, bs_append, List.append_assoc]; rfl
  rw [h]

set_option maxRecDepth 100000 in
set_option maxHeartbeats 8000000 in
theorem kCallE (x : NV) (w : World) (hcn : x.cn.size ≤ 200) (hs0 : x.s0.size ≤ 200) (h1 : -9223372036854775808 ≤ x.ci) (h2 : x.ci ≤ 9223372036854775807) :
    Calls Try.prog 18 #[.agg x.call.toArray] w fun e w' => e = .returned (.string (bs (callT x.ck x.cn x.s0 x.ci))) ∧ Below w.heap.size w w' := by
  have HK := Lib.hid (fun (w1 : World) r hb hr => kOne x.ck (w.heap.size + 1) 8 callL w1 9 hb (by decide) r hr)
  have HT := Lib.hid (fun (w1 : World) => kText x.ci w1 h1 h2)
  obtain ⟨r, hr⟩ : ∃ r, r = callT x.ck x.cn x.s0 x.ci := ⟨_, rfl⟩
  rw [← hr]
  have HR := Lib.hid hr
  have hlen : (txt x.ci).length ≤ 20 := txt_len h1 h2
  have HBB := Lib.hid (fun A B : Obj => ((Below.refl w.heap.size w).alloc (Nat.le_refl _) A).alloc (by simp) B)
  clear hr h1 h2
  unfold NV.call
  obtain ⟨a0, kind, proj, ck, cn, ci, s0, s1, s2, s3, s4, na, nl, nc, va, vl, vc, q0, q1, q2, q3, rs, tr, id, what, e⟩ := x
  dsimp only at *
  by_cases hout : ck < 1 ∨ 8 < ck
  · have HW := Lib.hid (wordN_out (l := callL) (n := ck) (by rcases hout with h | h; exact .inl h; exact .inr (by show (8 : Int) < ck; exact h)))
    have HE : Hid (r = [63]) := Lib.hid (by rw [HR.out, callT, if_pos hout])
    have hE : (bs []).toList.isEmpty = true := by rw [bs_toList]; rfl
    clear HR hlen
    go_enter Try.func18, Try.ntmps18
    go_wp2_with fail
    refine (HK.out _ [] (heap_new2 _ _ _ _ rfl) HW.out).mono ?_
    rintro e w1 ⟨rfl, rfl⟩
    go_wp2_with fail
    go_ret
    exact ⟨by rw [HE.out]; rfl, HBB.out _ _⟩
  · have hin : (wordN callL ck).length ≤ 8 ∧ (wordN callL ck) ≠ [] := by
      rcases (show ck = 1 ∨ ck = 2 ∨ ck = 3 ∨ ck = 4 ∨ ck = 5 ∨ ck = 6 ∨ ck = 7 ∨ ck = 8 by omega) with rfl | rfl | rfl | rfl | rfl | rfl | rfl | rfl <;> decide
    obtain ⟨rr, hrr⟩ : ∃ rr, wordN callL ck = rr := ⟨_, rfl⟩
    rw [hrr] at hin
    have HW := Lib.hid hrr
    have hE : (bs rr).toList.isEmpty = false := by rw [bs_toList]; cases rr with
      | nil => exact absurd rfl hin.2
      | cons => rfl
    have hz : (bs rr).size ≤ 8 := by rw [bs_size]; exact hin.1
    have hz2 : (bs (txt ci)).size ≤ 20 := by rw [bs_size]; exact hlen
    clear hrr hin hlen
    by_cases hk4 : ck ≤ 4
    · clear HT hz2
      have HE : Hid (r = rr ++ 32 :: cn.data.toList) := Lib.hid (by rw [HR.out, callT, if_neg hout, HW.out, if_pos hk4])
      clear HR hout
      go_enter Try.func18, Try.ntmps18
      go_wp2_with fail
      refine (HK.out _ rr (heap_new2 _ _ _ _ rfl) HW.out).mono ?_
      rintro e w1 ⟨rfl, rfl⟩
      go_wp2_with fail
      go_ret
      exact ⟨by rw [HE.out]; exact bs_three rr _ cn (bs_of cn).symm, HBB.out _ _⟩
    · by_cases hk5 : ck = 5
      · have hk5b : (ck == 5) = true := beqT hk5
        clear HT hz2
        have HE : Hid (r = rr ++ 32 :: s0.data.toList) := Lib.hid (by rw [HR.out, callT, if_neg hout, HW.out, if_neg hk4, if_pos hk5])
        clear HR hout hk5
        go_enter Try.func18, Try.ntmps18
        go_wp2_with fail
        refine (HK.out _ rr (heap_new2 _ _ _ _ rfl) HW.out).mono ?_
        rintro e w1 ⟨rfl, rfl⟩
        go_wp2_with fail
        go_ret
        exact ⟨by rw [HE.out]; exact bs_three rr _ s0 (bs_of s0).symm, HBB.out _ _⟩
      · have hk5b : (ck == 5) = false := beqF hk5
        have HE : Hid (r = rr ++ 32 :: txt ci) := Lib.hid (by rw [HR.out, callT, if_neg hout, HW.out, if_neg hk4, if_neg hk5])
        clear HR hout
        go_enter Try.func18, Try.ntmps18
        go_wp2_with fail
        refine (HK.out _ rr (heap_new2 _ _ _ _ rfl) HW.out).mono ?_
        rintro e w1 ⟨rfl, rfl⟩
        go_wp2_with fail
        refine (HT.out _).mono ?_
        rintro e w1 ⟨rfl, hb1⟩
        have hb2 := (HBB.out _ _).trans (hb1.mono (by simp; omega))
        clear hb1
        go_wp2_with fail
        go_ret
        exact ⟨by rw [HE.out]; exact bs_three rr _ _ rfl, hb2⟩
end Go.Proofs.Ytcphneofdjelpaa.W
