/- The last note of an engine that was over. -/
import Derived.Test.YtcphneofdjelpaaEv3
namespace Go.Proofs.Ytcphneofdjelpaa.W
open Go.RowKit Go.Proofs.Ytcphneofdjelpaa.Pl

/-- no note -/
def noNV : NV := ⟨0, 0, ⟨#[]⟩, 0, ⟨#[]⟩, 0, ⟨#[]⟩, ⟨#[]⟩, ⟨#[]⟩, 0, ⟨#[]⟩, none, 0, 0, none, 0, 0, ⟨#[]⟩, 0, 0, 0, 0, 0, 0, 0, 0⟩
/-- the last one -/
def lastNV (ys : List NV) : NV := ys.getLast?.getD noNV

theorem there_keep {w w' : World} {b o n : Nat} (hb : Below w.heap.size w w') (hlt : b < w.heap.size) (h : w.there b o n) : w'.there b o n := fun j hj => by
  have h1 := h j hj
  rw [World.cell?_of_block (a := ⟨b, o + j, none⟩) (hb.block b hlt), World.frozen?_of_block (a := ⟨b, o + j, none⟩) (hb.block b hlt)]
  exact h1
theorem infoNsz : (Try.prog.info? 40).map (·.size) = some 22 := by kernel_rfl

set_option maxRecDepth 100000 in
set_option maxHeartbeats 4000000 in
theorem kLast (v : Go.Value) (xs : List NV) (w : World) (hn : xs.length ≤ 60) (hr : NRow w v xs) :
    Calls Try.prog 10 #[v] w fun e w' => e = .returned (.tuple #[.agg (lastNV (xs.filter (fun x => x.kind == 4))).cells.toArray, .bool (!(xs.filter (fun x => x.kind == 4)).isEmpty)]) ∧ Below w.heap.size w w' := by
  have K1 := Lib.hid (fun w1 hr => kOf v xs 4 w1 hn hr)
  have HR := Lib.hid hr
  have hn2 : (xs.filter (fun x => x.kind == 4)).length ≤ 60 := Nat.le_trans (List.length_filter_le _ _) hn
  generalize xs.filter (fun x => x.kind == 4) = ys at *
  clear hn hr
  have hmid : ∀ (w2 : World) (x : NV), w2.rangeAt w.heap.size 0 x.cells → (loadVar 40 ⟨w.heap.size, 0, none⟩).run Try.prog w2 = .ok (.agg x.cells.toArray) w2 := fun w2 x h =>
    run_loadVar_mid w2 w.heap.size 0 40 x.cells _ h Try.underlying40 rfl infoNsz
  have HM := Lib.hid hmid
  clear hmid
  by_cases hys : ys = []
  · have K2 := Lib.hid (fun w1 hr => K1.out w1 hr)
    rw [hys] at K2
    rw [hys]
    clear K1 hys hn2
    have HL := Lib.hid (show lastNV [] = noNV from rfl)
    have HO := Lib.hid (all_oneCell_toArray noNV.one)
    rw [HL.out]
    clear HL
    go_enter Try.func10, Try.ntmps10
    go_wp2_with fail
    obtain ⟨W0, hW0⟩ : ∃ W0, W0 = w.alloc (Obj.cells #[.int .i64 0, .int .i64 0, .string ⟨#[]⟩, .int .i64 0, .string ⟨#[]⟩, .int .i64 0, .string ⟨#[]⟩, .string ⟨#[]⟩, .string ⟨#[]⟩, .int .i64 0, .string ⟨#[]⟩, .slice none 0 0, .slice none 0 0, .string ⟨#[]⟩, .int .i64 0, .int .i64 0, .int .i64 0, .int .i64 0, .int .i64 0, .int .i64 0, .int .i64 0, .int .i64 0] 40) := ⟨_, rfl⟩
    rw [← hW0]
    have hwb : Below w.heap.size w W0 := by rw [hW0]; exact (Below.refl _ _).alloc (Nat.le_refl _) _
    have hws : w.heap.size < W0.heap.size := by rw [hW0]; simp
    have hth : W0.there w.heap.size 0 22 := by rw [hW0]; exact there_new _ _ _ (by decide)
    clear hW0
    refine (K2.out _ (HR.out.keep hwb)).mono ?_
    rintro e w1 ⟨u, rfl, hown1, hb1⟩
    obtain ⟨A, cap, rfl, hcap, hcap2, hcell⟩ := NRow.of hown1
    clear hcell hown1
    have HT := Lib.hid (there_keep hb1 hws hth)
    have HB := Lib.hid (hwb.trans (hb1.mono (Nat.le_of_lt hws)))
    clear hwb hb1 hth hcap
    go_wp2_with (first
      | (refine wpList_store_mid rfl 40 _ _ rfl w.heap.size 0 noNV.cells.toArray rfl rfl HT.out infoNsz HO.out ?_))
    have hro := HM.out _ noNV (World.rangeAt_setCells_same _ _ _ _ HT.out)
    refine bodyPost_ret (v := .tuple #[.agg noNV.cells.toArray, .bool false]) ?_ rfl ⟨rfl, below_setCells _ _ _ HB.out (Nat.le_refl _)⟩
    simp [results, Try.results10, hro, asAddr]
  · have hlen : 0 < ys.length := List.length_pos_iff.2 hys
    have hxl : ys[ys.length - 1]? = some (lastNV ys) := by rw [← List.getLast?_eq_getElem?, lastNV, List.getLast?_eq_some_getLast hys]; rfl
    have hemp : (!ys.isEmpty) = true := by cases ys with
      | nil => exact absurd rfl hys
      | cons => rfl
    rw [hemp]
    have HX := Lib.hid hxl
    obtain ⟨n, hnn⟩ : ∃ n, ys.length = n := ⟨_, rfl⟩
    have HN := Lib.hid hnn
    rw [hnn] at hlen hn2 HX
    generalize lastNV ys = x at *
    have HO := Lib.hid (all_oneCell_toArray x.one)
    clear hxl hemp hys hnn
    go_enter Try.func10, Try.ntmps10
    go_wp2_with fail
    obtain ⟨W0, hW0⟩ : ∃ W0, W0 = w.alloc (Obj.cells #[.int .i64 0, .int .i64 0, .string ⟨#[]⟩, .int .i64 0, .string ⟨#[]⟩, .int .i64 0, .string ⟨#[]⟩, .string ⟨#[]⟩, .string ⟨#[]⟩, .int .i64 0, .string ⟨#[]⟩, .slice none 0 0, .slice none 0 0, .string ⟨#[]⟩, .int .i64 0, .int .i64 0, .int .i64 0, .int .i64 0, .int .i64 0, .int .i64 0, .int .i64 0, .int .i64 0] 40) := ⟨_, rfl⟩
    rw [← hW0]
    have hwb : Below w.heap.size w W0 := by rw [hW0]; exact (Below.refl _ _).alloc (Nat.le_refl _) _
    have hws : w.heap.size < W0.heap.size := by rw [hW0]; simp
    have hth : W0.there w.heap.size 0 22 := by rw [hW0]; exact there_new _ _ _ (by decide)
    clear hW0
    refine (K1.out _ (HR.out.keep hwb)).mono ?_
    rintro e w1 ⟨u, rfl, hown1, hb1⟩
    obtain ⟨A, cap, rfl, hcap, hcap2, hcell⟩ := NRow.of hown1
    rw [HN.out] at hcap hcell ⊢
    obtain ⟨b, off, rfl, hb, hL⟩ := hcell hlen
    have HRg := Lib.hid (hL (n - 1) x HX.out)
    have hinfo : (Try.prog.info? 40).map (·.size) = some x.cells.length := by rw [NV.len]; exact infoNsz
    have HI := Lib.hid hinfo
    have HT := Lib.hid (there_keep hb1 hws hth)
    have HB := Lib.hid (hwb.trans (hb1.mono (Nat.le_of_lt hws)))
    obtain ⟨m, rfl⟩ : ∃ m, n = m + 1 := ⟨n - 1, by omega⟩
    rw [Nat.add_sub_cancel] at HRg
    unfold maxLen at hcap2
    clear hwb hb1 hth hown1 hL hinfo HX
    go_wp2_with (first
      | (with_reducible refine wpList_load_mid rfl 40 _ rfl b (off + m * 22) rfl x.cells _ HRg.out Try.underlying40 rfl HI.out ?_)
      | (refine wpList_store_mid rfl 40 _ _ rfl w.heap.size 0 x.cells.toArray rfl rfl HT.out infoNsz HO.out ?_))
    have hro := HM.out _ x (World.rangeAt_setCells_same _ _ _ _ HT.out)
    refine bodyPost_ret (v := .tuple #[.agg x.cells.toArray, .bool true]) ?_ rfl ⟨rfl, below_setCells _ _ _ HB.out (Nat.le_refl _)⟩
    simp [results, Try.results10, hro, asAddr]
end Go.Proofs.Ytcphneofdjelpaa.W
