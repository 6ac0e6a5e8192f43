/- The same calls, the same notes. -/
import Derived.Test.YtcphneofdjelpaaEv4
namespace Go.Proofs.Ytcphneofdjelpaa.W
open Go.RowKit Go.Proofs.Ytcphneofdjelpaa.Pl

/-- a row of texts that can be read -/
def SRow (w : World) (A : Option Addr) (n c : Nat) : Prop := n ≤ c ∧ c ≤ maxLen ∧ (0 < n → ∃ b off, A = some ⟨b, off, none⟩ ∧ b < w.heap.size ∧ ∀ i, i < n → ∃ s, w.cell? ⟨b, off + i, none⟩ = some (.string s))
/-- a note whose rows of texts can be read -/
def Rd (w : World) (x : NV) : Prop := SRow w x.na x.nl x.nc ∧ SRow w x.va x.vl x.vc
theorem SRow.keep {w w' : World} {A : Option Addr} {n c : Nat} (hb : Below w.heap.size w w') (h : SRow w A n c) : SRow w' A n c := by
  obtain ⟨h1, h2, h3⟩ := h
  refine ⟨h1, h2, fun h0 => ?_⟩
  obtain ⟨b, off, rfl, hlt, hr⟩ := h3 h0
  refine ⟨b, off, rfl, Nat.lt_of_lt_of_le hlt hb.size, fun i hi => ?_⟩
  obtain ⟨s, hs⟩ := hr i hi
  exact ⟨s, (hb.cell (p := ⟨b, off + i, none⟩) hlt).trans hs⟩
theorem Rd.keep {w w' : World} {x : NV} (hb : Below w.heap.size w w') (h : Rd w x) : Rd w' x := ⟨h.1.keep hb, h.2.keep hb⟩
theorem below_drewN {B : Nat} {a w : World} (h : Below B a w) (n : Nat) : Below B a (w.drewN n) := ⟨h.os, h.tape, h.output, h.size, h.block⟩

set_option maxRecDepth 100000 in
set_option maxHeartbeats 4000000 in
theorem kSame02 (A : Option Addr) (n c : Nat) (w : World) (hr : SRow w A n c) :
    Calls Try.prog 37 #[.slice A n c, .slice A n c] w fun e w' => e = .returned (.bool true) ∧ Below w.heap.size w w' := by
  obtain ⟨h1, h2, h3⟩ := hr
  unfold maxLen at h2
  have HL := Lib.hid h3
  clear h3
  go_enter Try.func37, Try.ntmps37
  go_wp2_with fail
  go_loopw [5] (fun i wr => ∃ (k : Nat), k ≤ n ∧ i = .int .i64 k ∧ Below w.heap.size w wr) (fun i _ => n - (intOf i).toNat)
  case atStart => exact ⟨0, Nat.zero_le _, rfl, Below.refl _ _⟩
  case round =>
    obtain ⟨k, hk, rfl, hbl⟩ := hrel
    by_cases hlt : k < n
    · obtain ⟨b, off, rfl, hb, hS⟩ := HL.out (by omega)
      obtain ⟨s, hs⟩ := hS k hlt
      have hs2 : wr.cell? ⟨b, off + k, none⟩ = some (.string s) := (hbl.cell (p := ⟨b, off + k, none⟩) hb).trans hs
      have hi1 : (k : Int) < (n : Int) := by omega
      clear hS hs
      go_wp2_with fail
      go_quiet (fail)
      go_wp2_with fail
      exact ⟨⟨k + 1, by omega, by go_num, below_drewN hbl _⟩, by simp [intOf]; omega⟩
    · go_wp2_with fail
      go_ret
      exact ⟨rfl, hbl⟩

/-- a specification's cells -/
def NV.spec (n : NV) : List Go.Value := [.string n.s0, .string n.s1, .string n.s2, .int .i64 n.s3, .string n.s4, .slice n.na n.nl n.nc, .slice n.va n.vl n.vc, .string n.h0, .int .i64 n.h1, .int .i64 n.h2, .int .i64 n.h3, .int .i64 n.rs, .int .i64 n.tr]

/-- a specification in a block of its own -/
def Box (w : World) (b : Nat) (x : NV) : Prop := ∀ (j : Nat) v, x.spec[j]? = some v → w.cell? ⟨b, j, none⟩ = some v
theorem Box.keep {w w' : World} {b : Nat} {x : NV} (h : Box w b x) (hb : Below w.heap.size w w') (hlt : b < w.heap.size) : Box w' b x := fun j v hv =>
  (hb.cell (p := ⟨b, j, none⟩) hlt).trans (h j v hv)

set_option maxRecDepth 100000 in
set_option maxHeartbeats 4000000 in
theorem kAlike (x : NV) (w : World) (hr : Rd w x) :
    Calls Try.prog 24 #[.agg x.spec.toArray, .agg x.spec.toArray] w fun e w' => e = .returned (.bool true) ∧ Below w.heap.size w w' := by
  have HK := Lib.hid (fun w1 h => kSame02 x.na x.nl x.nc w1 h)
  have HK2 := Lib.hid (fun w1 h => kSame02 x.va x.vl x.vc w1 h)
  have HR := Lib.hid hr
  clear hr
  unfold NV.spec
  go_enter Try.func24, Try.ntmps24
  go_wp2_with fail
  refine (HK.out _ (HR.out.1.keep (((Below.refl _ _).alloc (Nat.le_refl _) _).alloc (by simp) _))).mono ?_
  rintro e w1 ⟨rfl, hb1⟩
  have hb2 : Below w.heap.size w w1 := ((((Below.refl w.heap.size w)).alloc (Nat.le_refl _) _).alloc (by simp) _).trans (hb1.mono (by simp; omega))
  have hsz1 : w.heap.size + 2 ≤ w1.heap.size := by have := hb1.size; simp at this; omega
  have hk := hb1.block w.heap.size (by simp; omega)
  have hk2 := hb1.block (w.heap.size + 1) (by simp)
  rw [heap_new2 _ _ _ _ rfl] at hk2
  rw [Below.heap_alloc _ _ _ (by simp), heap_alloc_new] at hk
  have HB2 := Lib.hid hb2
  have c1 : Box w1 w.heap.size x := fun j v hv => by rw [cell_of_row w1 _ j _ _ _ hk]; simpa [NV.spec] using hv
  have c2 : Box w1 (w.heap.size + 1) x := fun j v hv => by rw [cell_of_row w1 _ j _ _ _ hk2]; simpa [NV.spec] using hv
  clear hb1 hb2 hk hk2
  have f6 : w1.cell? ⟨w.heap.size, 6, none⟩ = some (.slice x.va x.vl x.vc) := c1 6 _ rfl
  have g6 : w1.cell? ⟨w.heap.size + 1, 6, none⟩ = some (.slice x.va x.vl x.vc) := c2 6 _ rfl
  have C1 := Lib.hid c1
  have C2 := Lib.hid c2
  clear c1 c2
  go_wp2_with fail
  refine (HK2.out _ (HR.out.2.keep HB2.out)).mono ?_
  rintro e w2 ⟨rfl, hb2⟩
  have c1 := C1.out.keep hb2 (by omega)
  have c2 := C2.out.keep hb2 (by omega)
  have HB3 := Lib.hid (HB2.out.trans (hb2.mono (by omega)))
  clear hb2 f6 g6
  have f0 : w2.cell? ⟨w.heap.size, 0, none⟩ = some (.string x.s0) := c1 0 _ rfl
  have f1 : w2.cell? ⟨w.heap.size, 1, none⟩ = some (.string x.s1) := c1 1 _ rfl
  have f2 : w2.cell? ⟨w.heap.size, 2, none⟩ = some (.string x.s2) := c1 2 _ rfl
  have f3 : w2.cell? ⟨w.heap.size, 3, none⟩ = some (.int .i64 x.s3) := c1 3 _ rfl
  have f4 : w2.cell? ⟨w.heap.size, 4, none⟩ = some (.string x.s4) := c1 4 _ rfl
  have f7 : w2.cell? ⟨w.heap.size, 7, none⟩ = some (.string x.h0) := c1 7 _ rfl
  have f8 : w2.cell? ⟨w.heap.size, 8, none⟩ = some (.int .i64 x.h1) := c1 8 _ rfl
  have f9 : w2.cell? ⟨w.heap.size, 9, none⟩ = some (.int .i64 x.h2) := c1 9 _ rfl
  have f10 : w2.cell? ⟨w.heap.size, 10, none⟩ = some (.int .i64 x.h3) := c1 10 _ rfl
  have f11 : w2.cell? ⟨w.heap.size, 11, none⟩ = some (.int .i64 x.rs) := c1 11 _ rfl
  have f12 : w2.cell? ⟨w.heap.size, 12, none⟩ = some (.int .i64 x.tr) := c1 12 _ rfl
  have g0 : w2.cell? ⟨w.heap.size + 1, 0, none⟩ = some (.string x.s0) := c2 0 _ rfl
  have g1 : w2.cell? ⟨w.heap.size + 1, 1, none⟩ = some (.string x.s1) := c2 1 _ rfl
  have g2 : w2.cell? ⟨w.heap.size + 1, 2, none⟩ = some (.string x.s2) := c2 2 _ rfl
  have g3 : w2.cell? ⟨w.heap.size + 1, 3, none⟩ = some (.int .i64 x.s3) := c2 3 _ rfl
  have g4 : w2.cell? ⟨w.heap.size + 1, 4, none⟩ = some (.string x.s4) := c2 4 _ rfl
  have g7 : w2.cell? ⟨w.heap.size + 1, 7, none⟩ = some (.string x.h0) := c2 7 _ rfl
  have g8 : w2.cell? ⟨w.heap.size + 1, 8, none⟩ = some (.int .i64 x.h1) := c2 8 _ rfl
  have g9 : w2.cell? ⟨w.heap.size + 1, 9, none⟩ = some (.int .i64 x.h2) := c2 9 _ rfl
  have g10 : w2.cell? ⟨w.heap.size + 1, 10, none⟩ = some (.int .i64 x.h3) := c2 10 _ rfl
  have g11 : w2.cell? ⟨w.heap.size + 1, 11, none⟩ = some (.int .i64 x.rs) := c2 11 _ rfl
  have g12 : w2.cell? ⟨w.heap.size + 1, 12, none⟩ = some (.int .i64 x.tr) := c2 12 _ rfl
  clear c1 c2 C1 C2 HB2 HK HK2 HR hsz1
  go_wp2_with fail
  go_ret
  exact ⟨rfl, HB3.out⟩

set_option maxRecDepth 100000 in
set_option maxHeartbeats 4000000 in
theorem kSameCall (x : NV) (w : World) (hr : Rd w x) :
    Calls Try.prog 9 #[.agg x.call.toArray, .agg x.call.toArray] w fun e w' => e = .returned (.bool true) ∧ Below w.heap.size w w' := by
  have HK := Lib.hid (fun w1 h => kAlike x w1 h)
  have HR := Lib.hid hr
  clear hr
  unfold NV.call
  go_enter Try.func9, Try.ntmps9
  go_wp2_with fail
  have hb0 : ∀ C D, Below w.heap.size w ((w.alloc C).alloc D) := fun C D => (((Below.refl _ _).alloc (Nat.le_refl _) _).alloc (by simp) _)
  refine (HK.out _ (HR.out.keep (hb0 _ _))).mono ?_
  rintro e w1 ⟨rfl, hb1⟩
  have HB := Lib.hid ((hb0 _ _).trans (hb1.mono (by simp; omega)))
  clear hb1 hb0
  go_wp2_with fail
  go_ret
  exact ⟨rfl, HB.out⟩
end Go.Proofs.Ytcphneofdjelpaa.W
