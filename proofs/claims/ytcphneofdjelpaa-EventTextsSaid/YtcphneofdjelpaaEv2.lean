/- The notes of a kind. -/
import Derived.Test.YtcphneofdjelpaaEv1
namespace Go.Proofs.Ytcphneofdjelpaa.W
open Go.RowKit Go.Proofs.Ytcphneofdjelpaa.Pl

theorem filter_snoc {xs : List NV} {k : Nat} {x : NV} (h : xs[k]? = some x) (p : NV → Bool) : (xs.take (k + 1)).filter p = (xs.take k).filter p ++ (if p x then [x] else []) := by
  rw [take_snoc h, List.filter_append]
  by_cases hp : p x = true <;> simp [hp]
theorem filter_len (xs : List NV) (k : Nat) (p : NV → Bool) : ((xs.take k).filter p).length ≤ k := Nat.le_trans (List.length_filter_le _ _) (by rw [List.length_take]; omega)
theorem heap_new2 (w : World) (a b : Obj) (n : Nat) (hn : n = w.heap.size + 1) : ((w.alloc a).alloc b).heap[n]? = some b := by
  subst hn
  rw [show w.heap.size + 1 = (w.alloc a).heap.size by simp]; exact heap_alloc_new _ _

set_option maxRecDepth 100000 in
set_option maxHeartbeats 4000000 in
theorem kOf (v : Go.Value) (xs : List NV) (kind : Int) (w : World) (hn : xs.length ≤ 60) (hr : NRow w v xs) :
    Calls Try.prog 13 #[v, .int .i64 kind] w fun e w' => ∃ u, e = .returned u ∧ w'.ownsRow w.heap.size 40 22 u (xs.filter (fun x => x.kind == kind)).length (flat (xs.filter (fun x => x.kind == kind))) ∧ Below w.heap.size w w' := by
  obtain ⟨A, cap, rfl, hcap, hcap2, hcell⟩ := hr
  unfold maxLen at hcap2
  have HL := Lib.hid hcell
  clear hcell
  obtain ⟨iC, zC, hiC, hzC, hcC, hsC, hbC⟩ := info_parts' infoN
  obtain ⟨n, hnn⟩ : ∃ n, xs.length = n := ⟨_, rfl⟩
  have HN := Lib.hid hnn
  rw [hnn] at hn hcap HL ⊢
  clear hnn
  obtain ⟨F, hF⟩ : ∃ F : Nat → List NV, ∀ k, F k = (xs.take k).filter (fun x => x.kind == kind) := ⟨_, fun _ => rfl⟩
  have HFl : ∀ k, (F k).length ≤ k := fun k => by rw [hF]; exact filter_len _ _ _
  have HF := Lib.hid hF
  have HE := Lib.hid (show xs.filter (fun x => x.kind == kind) = F n by rw [hF, List.take_of_length_le (by have := HN.out; omega)])
  rw [HE.out]
  clear hF HE
  go_enter Try.func13, Try.ntmps13
  go_wp2_with fail
  go_loopw [5, 10] (fun s i wr => ∃ (k : Nat) (va : Go.Value), k ≤ n ∧ va = s ∧ i = .int .i64 k ∧ Hid (wr.ownsRow w.heap.size 40 22 va (F k).length (flat (F k))) ∧ Below w.heap.size w wr) (fun _ i _ => n - (intOf i).toNat)
  case atStart => exact ⟨0, _, Nat.zero_le _, rfl, rfl, Lib.hid (by rw [HF.out]; exact World.ownsRow_nil _ _ _ _), Below.refl _ _⟩
  case round =>
    obtain ⟨k, va, hk, rfl, rfl, HA, hbl⟩ := hrel
    by_cases hlt : k < n
    · obtain ⟨b, off, rfl, hb, hL⟩ := HL.out (by omega)
      obtain ⟨x, hx⟩ : ∃ x, xs[k]? = some x := ⟨_, List.getElem?_eq_getElem (by have := HN.out; omega)⟩
      have hrange : wr.rangeAt b (off + k * 22) x.cells := fun j v hv => (hbl.cell (p := ⟨b, off + k * 22 + j, none⟩) hb).trans (hL k x hx j v hv)
      have hinfo : (Try.prog.info? 40).map (·.size) = some x.cells.length := by rw [NV.len]; kernel_rfl
      have hinfo2 : (Try.prog.info? 40).map (·.size) = some x.cells.toArray.size := by rw [NV.size]; kernel_rfl
      have HRg := Lib.hid hrange
      have HI := Lib.hid hinfo
      have HI2 := Lib.hid hinfo2
      have H1 := Lib.hid x.one
      have HO := Lib.hid (all_oneCell_toArray x.one)
      have HX := Lib.hid (filter_snoc hx (fun x => x.kind == kind))
      clear hL hrange hinfo hinfo2 hx
      have hsz := hbl.size
      have hFk := HFl k
      have hmx : (F k).length + 1 ≤ maxLen := by unfold maxLen; omega
      go_upto_region 5 with (first
        | (with_reducible refine wpList_load_mid rfl 40 _ rfl b (off + k * 22) rfl x.cells _ HRg.out Try.underlying40 rfl HI.out ?_)
        | (with_reducible refine wpList_store_mid rfl 40 _ _ rfl wr.heap.size 0 x.cells.toArray rfl rfl (there_new _ _ _ (by rw [NV.size]; decide)) HI2.out HO.out ?_))
      obtain ⟨wo, hwo⟩ : ∃ wo, wo = World.setCells (wr.alloc (Obj.cells #[.int .i64 0, .int .i64 0, .string ⟨#[]⟩, .int .i64 0, .string ⟨#[]⟩, .int .i64 0, .string ⟨#[]⟩, .string ⟨#[]⟩, .string ⟨#[]⟩, .int .i64 0, .string ⟨#[]⟩, .slice none 0 0, .slice none 0 0, .string ⟨#[]⟩, .int .i64 0, .int .i64 0, .int .i64 0, .int .i64 0, .int .i64 0, .int .i64 0, .int .i64 0, .int .i64 0] 40)) wr.heap.size 0 x.cells := ⟨_, rfl⟩
      rw [← hwo]
      have hro : wo.rangeAt wr.heap.size 0 x.cells := by rw [hwo]; exact World.rangeAt_setCells_same _ _ _ _ (there_new _ _ _ (by rw [NV.len]; decide))
      have hbo : Below w.heap.size w wo := by rw [hwo]; exact below_setCells _ _ _ (hbl.alloc hsz _) hsz
      have hao : wo.ownsRow w.heap.size 40 22 va (F k).length (flat (F k)) := by
        rw [hwo]
        exact ((HA.out.alloc _)).kept (grown_setCells _ _ _ _) (.inr fun e => by have := (HA.out.lt _ e).2; omega)
      have hso : wo.heap.size = wr.heap.size + 1 := by rw [hwo, setCells_size]; simp
      have f1 : wo.cell? ⟨wr.heap.size, 1, none⟩ = some (.int .i64 x.kind) := by have := hro 1 _ (show x.cells[1]? = some (.int .i64 x.kind) from rfl); rwa [Nat.zero_add] at this
      have HRO := Lib.hid hro
      have HAO := Lib.hid hao
      clear hwo hro hao HA hbl HRg HI2 HO
      have hso2 : w.heap.size ≤ wo.heap.size := by omega
      have HS := Lib.hid hso
      generalize wr.heap.size = Bs at *
      by_cases hkd : x.kind = kind
      · have hkb : (x.kind == kind) = true := beqT hkd
        have HF1 : Hid (F (k + 1) = F k ++ [x]) := Lib.hid (by rw [HF.out, HF.out, HX.out, if_pos hkb])
        clear HX hkd
        dsimp only [NV.cells] at HRO HI
        go_wp2_with (first
          | (with_reducible refine wpList_load_mid rfl 40 _ rfl Bs 0 rfl _ _ HRO.out Try.underlying40 rfl HI.out ?_)
          | (at_builtin; go_must (refine wpList_append_lies _ rfl _ _ 25 rfl w.heap.size 40 iC zC 22 264 Try.underlying25 hiC hzC hsC hbC hcC (by decide) va _ _ rfl (HAO.out.alloc _) ⟨Bs + 1, 0, none⟩ 1 1 x.cells rfl rfl (World.news_of_block (cs := x.cells.toArray) (t := 40) (fr := (0, 0)) (by rw [← HS.out]; exact heap_alloc_new wo _)) H1.out (by decide) hmx (by omega) (by simp; omega) (Bs + 2) (by simp [HS.out]) ?_); intro g1 cap1 w3 hown hgrow hat hlt3))
        have hb3 : Below w.heap.size w w3 := (hbo.alloc hso2 _).grown hgrow (by simp; omega) (fun g hg => (HAO.out.lt g hg).1)
        have HA3 : Hid (w3.ownsRow w.heap.size 40 22 (.slice (some ⟨g1, 0, none⟩) ((F k).length + 1) cap1) (F (k + 1)).length (flat (F (k + 1)))) := Lib.hid (by rw [HF1.out, flat_snoc, List.length_append]; exact hown)
        clear hown hgrow hat hlt3 HAO hbo
        exact ⟨⟨k + 1, _, by omega, rfl, by go_num, HA3, hb3⟩, by simp [intOf]; omega⟩
      · have hkb : (x.kind == kind) = false := beqF hkd
        have HF1 : Hid (F (k + 1) = F k) := Lib.hid (by rw [HF.out, HF.out, HX.out, if_neg (by simp [hkb]), List.append_nil])
        clear HX hkd
        go_wp2_with fail
        exact ⟨⟨k + 1, _, by omega, rfl, by go_num, Lib.hid (by rw [HF1.out]; exact HAO.out), hbo⟩, by simp [intOf]; omega⟩
    · have HA2 : Hid (wr.ownsRow w.heap.size 40 22 va (F n).length (flat (F n))) := Lib.hid (by have := HA.out; rwa [show k = n by omega] at this)
      clear HA
      go_wp2_with fail
      go_ret
      exact ⟨_, rfl, HA2.out, hbl⟩
end Go.Proofs.Ytcphneofdjelpaa.W
