/- Notes, shown. -/
import Derived.Test.YtcphneofdjelpaaEv12
import Derived.Test.YtcphneofdjelpaaEv20
import Derived.Test.YtcphneofdjelpaaEv17
namespace Go.Proofs
open Go.Shelf
def Try.lays167_ren : Go.Shelf.Ren := ⟨fun | 167 => 33 | 240 => 40 | 276 => 42 | n => n, fun | 9 => 9 | 3 => 3 | 4 => 4 | 0 => 0 | 20 => 20 | 72 => 60 | 70 => 57 | 37 => 58 | 75 => 62 | 164 => 75 | 5 => 5 | 80 => 55 | n => n, fun | n => n⟩
theorem Try.lays167 : Go.Proofs.Lays.n167 Try.prog Try.lays167_ren := {
  mixed := by kernel_rfl
  f167 := Try.func33.trans (congrArg some (by kernel_rfl))
  f240 := Try.func40.trans (congrArg some (by kernel_rfl))
  f276 := Try.func42.trans (congrArg some (by kernel_rfl))
  t0 := Try.underlying0
  a0 := Try.isAgg0
  z0 := Try.sizeOf0
  v0 := Try.zeroValue0
  t4 := Try.underlying4
  a4 := Try.isAgg4
  z4 := Try.sizeOf4
  v4 := Try.zeroValue4
  t5 := Try.underlying5
  a5 := Try.isAgg5
  z5 := Try.sizeOf5
  v5 := Try.zeroValue5
  t9 := Try.underlying9
  a9 := Try.isAgg9
  z9 := Try.sizeOf9
  v9 := Try.zeroValue9
  t20 := Try.underlying20
  a20 := Try.isAgg20
  z20 := Try.sizeOf20
  v20 := Try.zeroValue20
  t37 := Try.underlying58
  a37 := Try.isAgg58
  z37 := Try.sizeOf58
  v37 := Try.zeroValue58
  t70 := Try.underlying57
  a70 := Try.isAgg57
  z70 := Try.sizeOf57
  v70 := Try.zeroValue57
  t72 := Try.underlying60
  a72 := Try.isAgg60
  z72 := Try.sizeOf60
  v72 := Try.zeroValue60
  t75 := Try.underlying62
  a75 := Try.isAgg62
  z75 := Try.sizeOf62
  v75 := Try.zeroValue62
  t164 := Try.underlying75
  a164 := Try.isAgg75
  z164 := Try.sizeOf75
  v164 := Try.zeroValue75 }
theorem Try.Builder_Extra_167 : Builder.Extra Try.prog Try.lays167_ren := {
  sizeBuilder := by kernel_rfl
  liesBuilder := by kernel_rfl
  t5 := Try.underlying5
  a5 := Try.isAgg5
  z5 := Try.sizeOf5
  v5 := Try.zeroValue5
  infoByte := by kernel_rfl
  cellsByte := by kernel_rfl
  sizeByte := by kernel_rfl
  neB5 := by decide }
end Go.Proofs
namespace Go.Proofs.Ytcphneofdjelpaa.W
open Go.RowKit Go.Proofs.Ytcphneofdjelpaa.Pl

/-- a builder stays one -/
theorem bld_keep {T e : TypeId} {B b : Nat} {bs : List Go.Value} {W W' : World} (h : Lib.IsBuilder T e B b bs W) (hb : Below W.heap.size W W') : Lib.IsBuilder T e B b bs W' := by
  have key : ∀ p, Lib.BuilderAt T e B b p bs W → Lib.BuilderAt T e B b p bs W' := fun p ⟨h1, v, h2, h3, h4⟩ => by
    have hlt : b < W.heap.size := by
      rcases Nat.lt_or_ge b W.heap.size with h | h
      · exact h
      · rw [Array.getElem?_eq_none h] at h2; cases h2
    exact ⟨h1, v, (hb.block b hlt).trans h2, own_below5 h3 hb, h4⟩
  exact h.imp (key _) (key _)
theorem bytes_app (l m : List UInt8) : Lib.byteCells (l ++ m) = Lib.byteCells l ++ Lib.byteCells m := by simp [Lib.byteCells]
theorem kWriteString (B b : Nat) (l : List UInt8) (s : ByteArray) (w : World) (h : Lib.IsBuilder 60 5 B b (Lib.byteCells l) w) (hlen : l.length + s.size ≤ 100000) (hBw : B ≤ w.heap.size) :
    Calls Try.prog 32 #[.pointer (some ⟨b, 0, none⟩), .string s] w fun e w' => (∃ v, e = .returned v) ∧ Lib.IsBuilder 60 5 B b (Lib.byteCells (l ++ s.data.toList)) w' ∧ Below B w w' := by
  have hc := Any.Builder_WriteString { Try.lays156 with } Try.Builder_Extra_156 B b (Lib.byteCells l) s w h (by rw [Lib.byteCells_length]; omega) hBw
  refine Calls.mono hc ?_
  rintro e w' ⟨he, h1, h2⟩
  exact ⟨⟨_, he⟩, Or.inr (by rw [bytes_app]; exact h1), h2⟩
theorem kWriteByte (B b : Nat) (l : List UInt8) (w : World) (h : Lib.IsBuilder 60 5 B b (Lib.byteCells l) w) (hlen : l.length + 1 ≤ 100000) (hBw : B ≤ w.heap.size) :
    Calls Try.prog 33 #[.pointer (some ⟨b, 0, none⟩), .int .u8 10] w fun e w' => (∃ v, e = .returned v) ∧ Lib.IsBuilder 60 5 B b (Lib.byteCells (l ++ [10])) w' ∧ Below B w w' := by
  have hc := Any.Builder_WriteByte Try.lays167 Try.Builder_Extra_167 B b (Lib.byteCells l) 10 w h (by rw [Lib.byteCells_length]; omega) hBw
  refine Calls.mono hc ?_
  rintro e w' ⟨he, h1, h2⟩
  exact ⟨⟨_, he⟩, Or.inr (by rw [bytes_app]; exact h1), h2⟩

/-- notes, shown -/
def showT (xs : List NV) : List UInt8 := xs.flatMap fun x => noteT x ++ [10]
theorem showT_snoc (xs : List NV) (x : NV) : showT (xs ++ [x]) = showT xs ++ (noteT x ++ [10]) := by simp [showT]
theorem showT_len (xs : List NV) (h : ∀ x ∈ xs, x.ok) : (showT xs).length ≤ xs.length * 1106 := by
  induction xs with
  | nil => exact Nat.le_refl _
  | cons x r ih =>
    have h1 := ih fun y hy => h y (List.mem_cons_of_mem _ hy)
    have h2 := noteT_len (h x List.mem_cons_self)
    have e : showT (x :: r) = (noteT x ++ [10]) ++ showT r := by simp [showT]
    rw [e, List.length_append, List.length_append, List.length_singleton, List.length_cons, Nat.succ_mul]
    omega
theorem showT_take (xs : List NV) (k : Nat) (hk : k ≤ 60) (h : ∀ x ∈ xs, x.ok) : (showT (xs.take k)).length ≤ 66360 := by
  have h1 := showT_len (xs.take k) fun x hx => h x (List.mem_of_mem_take hx)
  have h2 : (xs.take k).length ≤ k := List.length_take_le _ _
  have h3 : (xs.take k).length * 1106 ≤ 60 * 1106 := Nat.mul_le_mul_right _ (by omega)
  omega

set_option maxRecDepth 100000 in
set_option maxHeartbeats 8000000 in
theorem kShowE (v : Go.Value) (xs : List NV) (w : World) (hn : xs.length ≤ 60) (hr : NRow w v xs) (hok : ∀ x ∈ xs, x.ok) :
    Calls Try.prog 16 #[v] w fun e w' => e = .returned (.string (bs (showT xs))) ∧ Below w.heap.size w w' := by
  obtain ⟨A, cap, rfl, hcap, hcap2, hcell⟩ := hr
  unfold maxLen at hcap2
  have HL := Lib.hid hcell
  have HK := Lib.hid hok
  have HZ := Lib.hid (fun k hk => showT_take xs k hk hok)
  have HB0 := Lib.hid (Lib.fresh_isBuilder 60 5 w)
  clear hcell hok
  obtain ⟨n, hnn⟩ : ∃ n, xs.length = n := ⟨_, rfl⟩
  have HN := Lib.hid hnn
  rw [hnn] at hn hcap HL ⊢
  clear hnn
  obtain ⟨r, hr⟩ : ∃ r, r = showT xs := ⟨_, rfl⟩
  rw [← hr]
  have HR := Lib.hid hr
  clear hr
  go_enter Try.func16, Try.ntmps16
  go_wp2_with fail
  go_loopw [8] (fun i wr => ∃ (k : Nat), k ≤ n ∧ i = .int .i64 k ∧ Hid (Lib.IsBuilder 60 5 w.heap.size w.heap.size (Lib.byteCells (showT (xs.take k))) wr) ∧ Below w.heap.size w wr) (fun i _ => n - (intOf i).toNat)
  case atStart => exact ⟨0, Nat.zero_le _, rfl, HB0, (Below.refl _ _).alloc (Nat.le_refl _) _⟩
  case round =>
    obtain ⟨k, hk, rfl, HB, hbl⟩ := hrel
    clear HB0
    by_cases hlt : k < n
    · obtain ⟨b, off, rfl, hb, hL⟩ := HL.out (by omega)
      obtain ⟨x, hx⟩ : ∃ x, xs[k]? = some x := ⟨_, List.getElem?_eq_getElem (by have := HN.out; omega)⟩
      have HRg := Lib.hid (show wr.rangeAt b (off + k * 22) x.cells from fun j v hv => (hbl.cell (p := ⟨b, off + k * 22 + j, none⟩) hb).trans (hL k x hx j v hv))
      have HI := Lib.hid (show (Try.prog.info? 40).map (·.size) = some x.cells.length by rw [NV.len]; exact infoNsz)
      have HI2 := Lib.hid (show (Try.prog.info? 40).map (·.size) = some x.cells.toArray.size by rw [NV.size]; exact infoNsz)
      have HO1 := Lib.hid (all_oneCell_toArray x.one)
      have hxo := HK.out x (List.mem_of_getElem? hx)
      have K1 := Lib.hid (fun w1 => kTextE x w1 hxo)
      have HT1 := Lib.hid (show showT (xs.take (k + 1)) = showT (xs.take k) ++ (noteT x ++ [10]) by rw [take_snoc hx, showT_snoc])
      have HZ1 := Lib.hid (noteT_len hxo)
      have HZk := Lib.hid (HZ.out k (by omega))
      have hsz := hbl.size
      clear hL hx hxo
      go_upto_region 5 with (first
        | (with_reducible refine wpList_load_mid rfl 40 _ rfl b (off + k * 22) rfl x.cells _ HRg.out Try.underlying40 rfl HI.out ?_)
        | (with_reducible refine wpList_store_mid rfl 40 _ _ rfl wr.heap.size 0 x.cells.toArray rfl rfl (there_new _ _ _ (by rw [NV.size]; decide)) HI2.out HO1.out ?_))
      obtain ⟨wo, hwo⟩ : ∃ wo, wo = World.setCells (wr.alloc (Obj.cells #[.int .i64 0, .int .i64 0, .string ⟨#[]⟩, .int .i64 0, .string ⟨#[]⟩, .int .i64 0, .string ⟨#[]⟩, .string ⟨#[]⟩, .string ⟨#[]⟩, .int .i64 0, .string ⟨#[]⟩, .slice none 0 0, .slice none 0 0, .string ⟨#[]⟩, .int .i64 0, .int .i64 0, .int .i64 0, .int .i64 0, .int .i64 0, .int .i64 0, .int .i64 0, .int .i64 0] 40)) wr.heap.size 0 x.cells := ⟨_, rfl⟩
      rw [← hwo]
      have hbo : Below wr.heap.size wr wo := by rw [hwo]; exact below_setCells _ _ _ ((Below.refl _ _).alloc (Nat.le_refl _) _) (Nat.le_refl _)
      have HRo := Lib.hid (show wo.rangeAt wr.heap.size 0 x.cells by rw [hwo]; exact World.rangeAt_setCells_same _ _ _ _ (there_new _ _ _ (by rw [NV.len]; decide)))
      have HBo := Lib.hid (bld_keep HB.out hbo)
      have HWo := Lib.hid (hbl.trans (hbo.mono hsz))
      clear hwo hbo HB hbl HRg HI2 HO1 hsz
      generalize wr.heap.size = N at *
      go_wp2_with (first
        | (with_reducible refine wpList_load_mid rfl 40 _ rfl N 0 rfl x.cells _ HRo.out Try.underlying40 rfl HI.out ?_))
      refine (K1.out wo).mono ?_
      rintro e w1 ⟨rfl, hb1⟩
      have HB1 := Lib.hid (bld_keep HBo.out hb1)
      have HW1 := Lib.hid (HWo.out.trans (hb1.mono HWo.out.size))
      clear hb1 HBo HWo HRo
      go_wp2_with fail
      refine (kWriteString _ _ _ _ w1 HB1.out (by rw [bs_size]; have := HZ1.out; have := HZk.out; omega) HW1.out.size).mono ?_
      rintro e w2 ⟨⟨v2, rfl⟩, hB2, hb2⟩
      have HB2 := Lib.hid hB2
      have HW2 := Lib.hid (HW1.out.trans hb2)
      clear hB2 hb2 HB1 HW1
      go_wp2_with fail
      refine (kWriteByte _ _ _ w2 HB2.out (by rw [List.length_append]; have := HZ1.out; have := HZk.out; show _ + (noteT x).length + 1 ≤ _; omega) HW2.out.size).mono ?_
      rintro e w3 ⟨⟨v3, rfl⟩, hB3, hb3⟩
      have HB3 := Lib.hid (show Lib.IsBuilder 60 5 w.heap.size w.heap.size (Lib.byteCells (showT (xs.take (k + 1)))) w3 by rw [HT1.out, ← List.append_assoc]; exact hB3)
      have hb4 := HW2.out.trans hb3
      clear hB3 hb3 HB2 HW2
      go_wp2_with fail
      exact ⟨⟨k + 1, by omega, by go_num, HB3, hb4⟩, by simp [intOf]; omega⟩
    · have HB1 := Lib.hid (show Lib.IsBuilder 60 5 w.heap.size w.heap.size (Lib.byteCells r) wr by
        have := HB.out; rwa [List.take_of_length_le (by have := HN.out; omega), ← HR.out] at this)
      clear HB
      go_wp2_with fail
      refine (Try.Builder_String_any w.heap.size w.heap.size r wr HB1.out hbl.size).mono ?_
      rintro e w1 ⟨rfl, hb1⟩
      have hb2 := hbl.trans hb1
      clear hb1
      go_wp2_with fail
      go_ret
      exact ⟨rfl, hb2⟩
end Go.Proofs.Ytcphneofdjelpaa.W
