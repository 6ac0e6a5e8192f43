/- The chapter's example. -/
import Derived.Test.YtcphneofdjelpaaEv12
namespace Go.Proofs.Ytcphneofdjelpaa.W
open Go.RowKit Go.Proofs.Ytcphneofdjelpaa.Pl

/-- a guarded load that is wanted -/
theorem wpList_load_want {P : Program} {ops : Array Oper} {rest : List Oper} {op : Oper} {a : Act} {w : World} {Q : Exit → Act → World → Prop} (hw : Region.wanted op (yielded ops a.tmps) = true) (ty : TypeId) (x : Operand) (ho : op.op = .load ty x)
    (b o : Nat) (hx : a.eval x = .pointer (some ⟨b, o, none⟩)) (cs : List Go.Value) (d : TypeDesc) (hc : w.rangeAt b o cs)
    (hu : P.underlying ty = some d) (hd : d.isRow = true) (hi : (P.info? ty).map (·.size) = some cs.length)
    (h : wpList P ops Q rest (a.put op.dst (.agg cs.toArray)) w) : wpList P ops Q (op :: rest) a w :=
  BigFrame.wpList_want hw fun _ hK => wp_load_mid ty x ho b o hx cs d hc hu hd hi (hK _ _ h)
/-- the example's note -/
def awakeNV : NV := ⟨5, 2, ⟨#[]⟩, 6, ⟨#[]⟩, 3, ⟨#[]⟩, ⟨#[]⟩, ⟨#[]⟩, 0, ⟨#[]⟩, none, 0, 0, none, 0, 0, ⟨#[]⟩, 0, 0, 0, 0, 0, 3, 0, 0⟩
theorem awake_ok : awakeNV.ok := ⟨by decide, by decide, by decide, by decide, by decide, by decide, by decide, by decide, by decide, by decide, by decide⟩
theorem awake_text : noteT awakeNV = [53, 32, 99, 97, 108, 108, 101, 100, 32, 115, 116, 97, 114, 116, 32, 51, 32, 51, 32, 111, 107] := by rfl

theorem kAwake1 (w : World) : Calls Try.prog 14 #[.agg awakeNV.cells.toArray] w fun e w' => e = .returned (.string ⟨#[53, 32, 99, 97, 108, 108, 101, 100, 32, 115, 116, 97, 114, 116, 32, 51, 32, 51, 32, 111, 107]⟩) ∧ Below w.heap.size w w' := by
  have h := kTextE awakeNV w awake_ok
  rw [awake_text] at h
  exact h
theorem kAwake2 (w : World) : Calls Try.prog 20 #[.int .i64 9] w fun e w' => e = .returned (.string ⟨#[102, 111, 114, 101, 105, 103, 110]⟩) ∧ Below w.heap.size w w' := kNameE 9 w [102, 111, 114, 101, 105, 103, 110] rfl
theorem kAwake3 (w : World) : Calls Try.prog 22 #[.int .i64 6] w fun e w' => e = .returned (.string ⟨#[114, 109]⟩) ∧ Below w.heap.size w w' := kCommandE 6 w [114, 109] rfl
theorem kAwake4 (W : World) : Calls Try.prog 8 #[.slice (some ⟨W.heap.size, 0, none⟩) 1 1] (W.alloc (.cells awakeNV.cells.toArray 40)) fun e w' => (∃ b c, e = .returned (.slice (some ⟨b, 0, none⟩) 1 c)) ∧ Below W.heap.size W w' := by
  refine (kDone _ [awakeNV] _ (by decide) ⟨some ⟨W.heap.size, 0, none⟩, 1, rfl, Nat.le_refl _, by unfold maxLen; omega, fun _ => ⟨W.heap.size, 0, rfl, by simp, fun i x hx => ?_⟩⟩).mono ?_
  · match i with
    | 0 =>
      simp only [List.getElem?_cons_zero, Option.some.injEq] at hx
      subst hx
      intro j v hv
      rw [World.cell?_alloc_at _ _ _ _ rfl]
      simpa using hv
    | i + 1 => simp at hx
  · rintro e w' ⟨u, rfl, hown, hb⟩
    obtain ⟨g, cap, rfl, _⟩ := hown.form (show 0 < ([awakeNV].filter isDone).length by decide)
    exact ⟨⟨g, cap, rfl⟩, ((Below.refl _ _).alloc (Nat.le_refl _) _).trans (hb.mono (by simp))⟩

set_option maxRecDepth 100000 in
set_option maxHeartbeats 4000000 in
theorem kAwake (w : World) :
    Calls Try.prog 6 #[] w fun e w' => e = .returned (.bool true) ∧ Below w.heap.size w w' := by
  have HO := Lib.hid (all_oneCell_toArray awakeNV.one)
  have HI := Lib.hid infoNsz
  have HI2 := Lib.hid (show (Try.prog.info? 40).map (·.size) = some awakeNV.cells.length from infoNsz)
  go_enter Try.func6, Try.ntmps6
  go_upto_region 2 with (first
      | (refine wpList_store_mid rfl 40 _ _ rfl w.heap.size 0 awakeNV.cells.toArray rfl rfl (there_new _ _ _ (by decide)) HI.out HO.out ?_))
  obtain ⟨wo, hwo⟩ : ∃ wo, wo = (w.alloc (Obj.cells #[.int .i64 0, .int .i64 0, .string ⟨#[]⟩, .int .i64 0, .string ⟨#[]⟩, .int .i64 0, .string ⟨#[]⟩, .string ⟨#[]⟩, .string ⟨#[]⟩, .int .i64 0, .string ⟨#[]⟩, .slice none 0 0, .slice none 0 0, .string ⟨#[]⟩, .int .i64 0, .int .i64 0, .int .i64 0, .int .i64 0, .int .i64 0, .int .i64 0, .int .i64 0, .int .i64 0] 40)).setCells w.heap.size 0 awakeNV.cells := ⟨_, rfl⟩
  rw [← hwo]
  have hro : wo.rangeAt w.heap.size 0 awakeNV.cells := by rw [hwo]; exact World.rangeAt_setCells_same _ _ _ _ (there_new _ _ _ (by decide))
  have hbo : Below w.heap.size w wo := by rw [hwo]; exact below_setCells _ _ _ ((Below.refl _ _).alloc (Nat.le_refl _) _) (Nat.le_refl _)
  have hso : w.heap.size < wo.heap.size := by rw [hwo, setCells_size]; simp
  have HRO := Lib.hid hro
  have HB := Lib.hid hbo
  clear hwo HO hro hbo
  go_wp2_with (first
    | (with_reducible refine wpList_load_mid rfl 40 _ rfl w.heap.size 0 rfl awakeNV.cells _ HRO.out Try.underlying40 rfl HI2.out ?_))
  refine (kAwake1 _).mono ?_
  rintro e w1 ⟨rfl, hb1⟩
  have HR1 := Lib.hid (show w1.rangeAt w.heap.size 0 awakeNV.cells from fun j v hv => (hb1.cell (p := ⟨w.heap.size, 0 + j, none⟩) hso).trans (HRO.out j v hv))
  have HB1 := Lib.hid (HB.out.trans (hb1.mono (Nat.le_of_lt hso)))
  have hs1 : w.heap.size < w1.heap.size := Nat.lt_of_lt_of_le hso hb1.size
  clear HRO HB hb1 hso
  go_wp2_with fail
  refine (kAwake2 _).mono ?_
  rintro e w2 ⟨rfl, hb2⟩
  have HR2 := Lib.hid (show w2.rangeAt w.heap.size 0 awakeNV.cells from fun j v hv => (hb2.cell (p := ⟨w.heap.size, 0 + j, none⟩) hs1).trans (HR1.out j v hv))
  have HB2 := Lib.hid (HB1.out.trans (hb2.mono (Nat.le_of_lt hs1)))
  have hs2 : w.heap.size < w2.heap.size := Nat.lt_of_lt_of_le hs1 hb2.size
  clear HR1 HB1 hb2 hs1
  go_wp2_with fail
  refine (kAwake3 _).mono ?_
  rintro e w3 ⟨rfl, hb3⟩
  have HR3 := Lib.hid (show w3.rangeAt w.heap.size 0 awakeNV.cells from fun j v hv => (hb3.cell (p := ⟨w.heap.size, 0 + j, none⟩) hs2).trans (HR2.out j v hv))
  have HB3 := Lib.hid (HB2.out.trans (hb3.mono (Nat.le_of_lt hs2)))
  have hs3 : w.heap.size < w3.heap.size := Nat.lt_of_lt_of_le hs2 hb3.size
  clear HR2 HB2 hb3 hs2
  go_wp2_with (first
    | (refine wpList_load_want (by rfl) 40 _ rfl w.heap.size 0 rfl awakeNV.cells _ HR3.out Try.underlying40 rfl HI2.out ?_))
  refine (kAwake4 _).mono ?_
  rintro e w4 ⟨⟨b, c, rfl⟩, hb4⟩
  have HB4 := Lib.hid (HB3.out.trans (hb4.mono (Nat.le_of_lt hs3)))
  clear HR3 HB3 hb4 hs3
  go_wp2_with fail
  go_ret
  exact ⟨rfl, HB4.out⟩
end Go.Proofs.Ytcphneofdjelpaa.W
