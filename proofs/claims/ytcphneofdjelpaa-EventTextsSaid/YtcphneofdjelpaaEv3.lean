/- The calls done. -/
import Derived.Test.YtcphneofdjelpaaEv2
import Derived.Deep.Onto
namespace Go.Proofs.Ytcphneofdjelpaa.W
open Go.RowKit Go.Proofs.Ytcphneofdjelpaa.Pl

/-- the cells of the notes' calls -/
def flatC (xs : List NV) : List Go.Value := xs.flatMap NV.call
theorem flatC_snoc (xs : List NV) (x : NV) : flatC (xs ++ [x]) = flatC xs ++ x.call := by simp [flatC]
theorem NV.callLen (n : NV) : n.call.length = 16 := rfl
theorem flatC_len (xs : List NV) : (flatC xs).length = xs.length * 16 := by
  induction xs with
  | nil => rfl
  | cons x r ih => rw [flatC, List.flatMap_cons, List.length_append, NV.callLen, List.length_cons]; unfold flatC at ih; omega
theorem flatC_get (xs : List NV) : ∀ (i : Nat) (x : NV), xs[i]? = some x → ∀ j, j < 16 → (flatC xs)[i * 16 + j]? = x.call[j]? := by
  induction xs with
  | nil => intro i x h; simp at h
  | cons y r ih =>
    intro i x h j hj
    have e : flatC (y :: r) = y.call ++ flatC r := by simp [flatC]
    rw [e]
    match i with
    | 0 =>
      simp only [List.getElem?_cons_zero, Option.some.injEq] at h
      subst h
      rw [Nat.zero_mul, Nat.zero_add, List.getElem?_append_left (by rw [NV.callLen]; exact hj)]
    | i + 1 =>
      rw [List.getElem?_cons_succ] at h
      rw [List.getElem?_append_right (by rw [NV.callLen]; omega), NV.callLen, show (i + 1) * 16 + j - 16 = i * 16 + j by omega]
      exact ih i x h j hj
theorem NV.callAt (n : NV) (j : Nat) (v : Go.Value) (h : n.call[j]? = some v) : n.cells[3 + j]? = some v := by
  have hj : j < 16 := (List.getElem?_eq_some_iff.1 h).1
  have e : n.cells = [.int .i64 n.a0, .int .i64 n.kind, .string n.proj] ++ (n.call ++ [.int .i64 n.id, .int .i64 n.what, .int .i64 n.e]) := rfl
  rw [e, List.getElem?_append_right (by simp)]
  rw [show 3 + j - _ = j from by simp, List.getElem?_append_left hj, h]
theorem NV.callOne (n : NV) : ∀ v ∈ n.call, v.oneCell' = true := by
  intro v hv
  simp only [NV.call, List.mem_cons, List.not_mem_nil, or_false] at hv
  rcases hv with rfl | rfl | rfl | rfl | rfl | rfl | rfl | rfl | rfl | rfl | rfl | rfl | rfl | rfl | rfl | rfl
  all_goals rfl
theorem infoCall : (Try.prog.info? 33).map (fun i => (i.zero.map fun z => z.cells.size, i.size, i.bytes)) = some (some 16, 16, 208) := by kernel_rfl

/-- the calls done -/
def isDone (x : NV) : Bool := x.kind == 2 && x.e == 0

set_option maxRecDepth 100000 in
set_option maxHeartbeats 4000000 in
theorem kDone (v : Go.Value) (xs : List NV) (w : World) (hn : xs.length ≤ 60) (hr : NRow w v xs) :
    Calls Try.prog 8 #[v] w fun e w' => ∃ u, e = .returned u ∧ w'.ownsRow w.heap.size 33 16 u (xs.filter isDone).length (flatC (xs.filter isDone)) ∧ Below w.heap.size w w' := by
  have K1 := Lib.hid (kOf v xs 2 w hn hr)
  have hn2 : (xs.filter (fun x => x.kind == 2)).length ≤ 60 := Nat.le_trans (List.length_filter_le _ _) hn
  have HE0 := Lib.hid (show xs.filter isDone = (xs.filter (fun x => x.kind == 2)).filter (fun x => x.e == 0) by rw [List.filter_filter]; exact List.filter_congr fun x _ => by rw [isDone, Bool.and_comm])
  rw [HE0.out]
  clear HE0 hn hr
  obtain ⟨iC, zC, hiC, hzC, hcC, hsC, hbC⟩ := info_parts' infoCall
  generalize xs.filter (fun x => x.kind == 2) = ys at *
  clear xs
  obtain ⟨n, hnn⟩ : ∃ n, ys.length = n := ⟨_, rfl⟩
  have HN := Lib.hid hnn
  rw [hnn] at hn2
  clear hnn
  obtain ⟨F, hF⟩ : ∃ F : Nat → List NV, ∀ k, F k = (ys.take k).filter (fun x => x.e == 0) := ⟨_, fun _ => rfl⟩
  have HFl : ∀ k, (F k).length ≤ k := fun k => by rw [hF]; exact filter_len _ _ _
  have HF := Lib.hid hF
  have HE := Lib.hid (show ys.filter (fun x => x.e == 0) = F n by rw [hF, List.take_of_length_le (by have := HN.out; omega)])
  rw [HE.out]
  clear hF HE
  go_enter Try.func8, Try.ntmps8
  go_wp2_with fail
  refine K1.out.mono ?_
  rintro e w1 ⟨u, rfl, hown1, hb1⟩
  have HR1 := Lib.hid (NRow.of hown1)
  have hsz1 := hb1.size
  clear K1 hown1
  obtain ⟨A, cap, rfl, hcap, hcap2, hcell⟩ := HR1.out
  unfold maxLen at hcap2
  have HL := Lib.hid hcell
  clear hcell HR1
  rw [HN.out] at hcap HL ⊢
  have HB1 := Lib.hid hb1
  clear hb1
  go_wp2_with fail
  go_loopw [3, 9] (fun s i wr => ∃ (k : Nat) (va : Go.Value), k ≤ n ∧ va = s ∧ i = .int .i64 k ∧ Hid (wr.ownsRow w1.heap.size 33 16 va (F k).length (flatC (F k))) ∧ Below w1.heap.size w1 wr) (fun _ i _ => n - (intOf i).toNat)
  case atStart => exact ⟨0, _, Nat.zero_le _, rfl, rfl, Lib.hid (by rw [HF.out]; exact World.ownsRow_nil _ _ _ _), Below.refl _ _⟩
  case round =>
    obtain ⟨k, va, hk, rfl, rfl, HA, hbl⟩ := hrel
    by_cases hlt : k < n
    · obtain ⟨b, off, rfl, hb, hL⟩ := HL.out (by omega)
      obtain ⟨x, hx⟩ : ∃ x, ys[k]? = some x := ⟨_, List.getElem?_eq_getElem (by have := HN.out; omega)⟩
      have hrange : wr.rangeAt b (off + k * 22) x.cells := fun j v hv => (hbl.cell (p := ⟨b, off + k * 22 + j, none⟩) hb).trans (hL k x hx j v hv)
      have hinfo : (Try.prog.info? 40).map (·.size) = some x.cells.length := by rw [NV.len]; kernel_rfl
      have hinfo2 : (Try.prog.info? 40).map (·.size) = some x.cells.toArray.size := by rw [NV.size]; kernel_rfl
      have hinfo3 : (Try.prog.info? 33).map (·.size) = some x.call.length := by rw [NV.callLen]; kernel_rfl
      have HRg := Lib.hid hrange
      have HI := Lib.hid hinfo
      have HI2 := Lib.hid hinfo2
      have HI3 := Lib.hid hinfo3
      have H1 := Lib.hid x.callOne
      have HO := Lib.hid (all_oneCell_toArray x.one)
      have HX := Lib.hid (filter_snoc hx (fun x => x.e == 0))
      clear hL hrange hinfo hinfo2 hinfo3 hx
      have hsz := hbl.size
      have hFk := HFl k
      have hmx : (F k).length + 1 ≤ maxLen := by unfold maxLen; omega
      go_upto_region 5 with (first
        | (with_reducible refine wpList_load_mid rfl 40 _ rfl b (off + k * 22) rfl x.cells _ HRg.out Try.underlying40 rfl HI.out ?_)
        | (with_reducible refine wpList_store_mid rfl 40 _ _ rfl wr.heap.size 0 x.cells.toArray rfl rfl (there_new _ _ _ (by rw [NV.size]; decide)) HI2.out HO.out ?_))
      obtain ⟨wo, hwo⟩ : ∃ wo, wo = World.setCells (wr.alloc (Obj.cells #[.int .i64 0, .int .i64 0, .string ⟨#[]⟩, .int .i64 0, .string ⟨#[]⟩, .int .i64 0, .string ⟨#[]⟩, .string ⟨#[]⟩, .string ⟨#[]⟩, .int .i64 0, .string ⟨#[]⟩, .slice none 0 0, .slice none 0 0, .string ⟨#[]⟩, .int .i64 0, .int .i64 0, .int .i64 0, .int .i64 0, .int .i64 0, .int .i64 0, .int .i64 0, .int .i64 0] 40)) wr.heap.size 0 x.cells := ⟨_, rfl⟩
      rw [← hwo]
      have hro : wo.rangeAt wr.heap.size 0 x.cells := by rw [hwo]; exact World.rangeAt_setCells_same _ _ _ _ (there_new _ _ _ (by rw [NV.len]; decide))
      have hro3 : wo.rangeAt wr.heap.size 3 x.call := fun j v hv => by have := hro (3 + j) v (x.callAt j v hv); rwa [Nat.zero_add] at this
      have hbo : Below w1.heap.size w1 wo := by rw [hwo]; exact below_setCells _ _ _ (hbl.alloc hsz _) hsz
      have hao : wo.ownsRow w1.heap.size 33 16 va (F k).length (flatC (F k)) := by
        rw [hwo]
        exact ((HA.out.alloc _)).kept (grown_setCells _ _ _ _) (.inr fun e => by have := (HA.out.lt _ e).2; omega)
      have hso : wo.heap.size = wr.heap.size + 1 := by rw [hwo, setCells_size]; simp
      have f1 : wo.cell? ⟨wr.heap.size, 21, none⟩ = some (.int .i64 x.e) := by have := hro 21 _ (show x.cells[21]? = some (.int .i64 x.e) from rfl); rwa [Nat.zero_add] at this
      have HRO := Lib.hid hro3
      have HAO := Lib.hid hao
      clear hwo hro hro3 hao HA hbl HRg HI2 HO
      have hso2 : w1.heap.size ≤ wo.heap.size := by omega
      have HS := Lib.hid hso
      generalize wr.heap.size = Bs at *
      by_cases hkd : x.e = 0
      · have hkb : (x.e == 0) = true := beqT hkd
        have HF1 : Hid (F (k + 1) = F k ++ [x]) := Lib.hid (by rw [HF.out, HF.out, HX.out, if_pos hkb])
        clear HX hkd
        dsimp only [NV.call] at HRO HI3
        go_wp2_with (first
          | (with_reducible refine wpList_load_mid rfl 33 _ rfl Bs 3 rfl _ _ HRO.out Try.underlying33 rfl HI3.out ?_)
          | (at_builtin; go_must (refine wpList_append_lies _ rfl _ _ 37 rfl w1.heap.size 33 iC zC 16 208 Try.underlying37 hiC hzC hsC hbC hcC (by decide) va _ _ rfl (HAO.out.alloc _) ⟨Bs + 1, 0, none⟩ 1 1 x.call rfl rfl (World.news_of_block (cs := x.call.toArray) (t := 33) (fr := (0, 0)) (by rw [← HS.out]; exact heap_alloc_new wo _)) H1.out (by decide) hmx (by omega) (by simp; omega) (Bs + 2) (by simp [HS.out]) ?_); intro g1 cap1 w3 hown hgrow hat hlt3))
        have hb3 : Below w1.heap.size w1 w3 := (hbo.alloc hso2 _).grown hgrow (by simp; omega) (fun g hg => (HAO.out.lt g hg).1)
        have HA3 : Hid (w3.ownsRow w1.heap.size 33 16 (.slice (some ⟨g1, 0, none⟩) ((F k).length + 1) cap1) (F (k + 1)).length (flatC (F (k + 1)))) := Lib.hid (by rw [HF1.out, flatC_snoc, List.length_append]; exact hown)
        clear hown hgrow hat hlt3 HAO hbo
        exact ⟨⟨k + 1, _, by omega, rfl, by go_num, HA3, hb3⟩, by simp [intOf]; omega⟩
      · have hkb : (x.e == 0) = false := beqF hkd
        have HF1 : Hid (F (k + 1) = F k) := Lib.hid (by rw [HF.out, HF.out, HX.out, if_neg (by simp [hkb]), List.append_nil])
        clear HX hkd
        go_wp2_with fail
        exact ⟨⟨k + 1, _, by omega, rfl, by go_num, Lib.hid (by rw [HF1.out]; exact HAO.out), hbo⟩, by simp [intOf]; omega⟩
    · have HA2 : Hid (wr.ownsRow w.heap.size 33 16 va (F n).length (flatC (F n))) := Lib.hid (by have := HA.out.mono hsz1; rwa [show k = n by omega] at this)
      have hbf : Below w.heap.size w wr := HB1.out.trans (hbl.mono hsz1)
      clear HA
      go_wp2_with fail
      go_ret
      exact ⟨_, rfl, HA2.out, hbf⟩
end Go.Proofs.Ytcphneofdjelpaa.W
