/- Contract of the reference's text of a burden. -/
import Derived.Test.YtglihjdbbpohlaaBur1
namespace Go.Proofs.Ytglihjdbbpohlaa.W
open Go.RowKit Go.Proofs.Ytglihjdbbpohlaa.Pl

/-- a contract whose world keeps two cells -/
theorem keep2 {P : Program} {f : FuncId} {args : Array Go.Value} {w : World} {v : Go.Value} (h : Calls P f args w fun e w' => e = .returned v ∧ Below w.heap.size w w') (x y : Addr) (u t : Go.Value) (hx : w.cell? x = some u) (hy : w.cell? y = some t) :
    Calls P f args w fun e w' => e = .returned v ∧ Below w.heap.size w w' ∧ w'.cell? x = some u ∧ w'.cell? y = some t :=
  h.mono fun _ _ ⟨he, hb⟩ => ⟨he, hb, (hb.cell (World.block_lt_of_cell? _ _ hx)).trans hx, (hb.cell (World.block_lt_of_cell? _ _ hy)).trans hy⟩
def nearG (n most : Int) : Int := if n < 0 then 0 else if most < n then most else n
set_option maxHeartbeats 4000000 in
theorem kRefBurText (a b m2 : Int) (w : World) (a0 : 0 ≤ a) (a1 : a < 4503599627370496) (b0 : 0 ≤ b) (b1 : b < 4503599627370496) (hm : (b ≤ 1125899906842624 ∧ b = m2) ∨ (1125899906842624 < b ∧ m2 = 1125899906842624)) (l : List UInt8) (hl : mtxt a ++ 32 :: szT m2 = l) :
    Calls Try.prog 38 #[.agg #[.int .i64 a, .int .i64 b]] w fun e w' => e = .returned (.string (bs l)) ∧ Below w.heap.size w w' := by
  obtain ⟨s1, s2, s3, hap⟩ := burParts a m2 a1 l hl
  have K1 := Lib.hid (fun w1 => kRefMilliText a w1 (by omega))
  have K2 := Lib.hid (fun w1 => kRefSizeText m2 w1 (by omega) (by omega))
  have K3 := Lib.hid (fun w1 => kRefNear28 a 9007199254740992 w1 a (by rw [if_neg (by omega), if_neg (by omega)]))
  have K4 := Lib.hid (fun w1 => kRefNear28 b 1125899906842624 w1 m2 (by rw [if_neg (by omega)]; split <;> omega))
  have Hap := Lib.hid hap
  clear hap hl hm
  generalize mtxt a = m1 at *
  generalize szT m2 = m3 at *
  go_enter Try.func38, Try.ntmps38
  go_wp2_with fail
  have c1 : (w.alloc (Obj.cells #[.int .i64 a, .int .i64 b] 38)).cell? ⟨w.heap.size, 0, none⟩ = some (.int .i64 a) := by rw [World.cell?_alloc_at _ _ _ _ rfl]; rfl
  have c2 : (w.alloc (Obj.cells #[.int .i64 a, .int .i64 b] 38)).cell? ⟨w.heap.size, 1, none⟩ = some (.int .i64 b) := by rw [World.cell?_alloc_at _ _ _ _ rfl]; rfl
  have hb0 : Below w.heap.size w (w.alloc (Obj.cells #[.int .i64 a, .int .i64 b] 38)) := (Below.refl _ _).alloc (Nat.le_refl _) _
  generalize w.alloc (Obj.cells #[.int .i64 a, .int .i64 b] 38) = w0 at *
  go_region_with (first
    | (go_at_call_of 68 (Go.Value.int .i64 a); refine (K3.out _).mono ?_; rintro e w' ⟨rfl, rfl⟩)
    | (go_at_call_of 68 (Go.Value.int .i64 b); refine (K4.out _).mono ?_; rintro e w' ⟨rfl, rfl⟩)
    | (go_at_call 42; refine (keep2 (K1.out _) ⟨w.heap.size, 0, none⟩ ⟨w.heap.size, 1, none⟩ _ _ (by first | assumption | simp [*]) (by first | assumption | simp [*])).mono ?_; rintro e w1 ⟨rfl, hb1, hc1, hc2⟩)
    | (go_at_call 43; refine (keep2 (K2.out _) ⟨w.heap.size, 0, none⟩ ⟨w.heap.size, 1, none⟩ _ _ (by first | assumption | simp [*]) (by first | assumption | simp [*])).mono ?_; rintro e w1 ⟨rfl, hb2, hc3, hc4⟩))
  all_goals
    go_wp2
    go_ret
    exact ⟨by rw [← Hap.out]; rfl, (hb0.drew.trans (hb1.mono (by have := hb0.size; simp; omega))).trans (hb2.mono (by have := hb0.size; have := hb1.size; simp at this; omega))⟩

end Go.Proofs.Ytglihjdbbpohlaa.W
