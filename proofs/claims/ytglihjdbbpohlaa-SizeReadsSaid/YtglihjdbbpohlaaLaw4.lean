/- The walks of the statements of layer 4 (size). -/
import Derived.Test.YtglihjdbbpohlaaSiz3
import Derived.Test.YtglihjdbbpohlaaSiz4
import Derived.Test.YtglihjdbbpohlaaPlS2
namespace Go.Proofs.Ytglihjdbbpohlaa.W
open Go.RowKit Go.Proofs.Ytglihjdbbpohlaa.Pl

/-- a contract, said from an elder world -/
theorem rel {P : Program} {f : FuncId} {args : Array Go.Value} {w W : World} {B : Nat} {v : Go.Value} (hb : Below B W w) (hB : B ≤ w.heap.size)
    (h : Calls P f args w fun e w' => e = .returned v ∧ Below w.heap.size w w') : Calls P f args w fun e w' => e = .returned v ∧ Below B W w' ∧ B ≤ w'.heap.size :=
  h.mono fun _ _ ⟨he, hw⟩ => ⟨he, hb.trans (hw.mono hB), Nat.le_trans hB hw.size⟩
theorem relD {P : Program} {f : FuncId} {args : Array Go.Value} {w W : World} {B : Nat} {v : Go.Value} (hb : Below B W w) (hB : B ≤ w.heap.size)
    (h : Calls P f args w fun e w' => e = .returned v ∧ ∃ n, w' = w.drewN n) : Calls P f args w fun e w' => e = .returned v ∧ Below B W w' ∧ B ≤ w'.heap.size :=
  h.mono fun _ _ ⟨he, n, hw⟩ => ⟨he, by subst hw; exact ⟨hb.os, hb.tape, hb.output, hb.size, hb.block⟩, by subst hw; exact hB⟩
theorem returns_eq {P : Program} {f : FuncId} {args : Array Go.Value} {w : World} {v v' : Go.Value} {Q : World → Prop} (hv : v = v')
    (h : Calls P f args w fun e w' => e = .returned v ∧ Q w') : Calls P f args w fun e w' => e = .returned v' ∧ Q w' := hv ▸ h

theorem szP1 : szV [54, 52, 107, 98] = 65536 ∧ szE [54, 52, 107, 98] = 0 := by decide
theorem szP2 : szV [49, 116] = 0 ∧ szE [49, 116] = 3 := by decide
theorem szP3 : szT 65536 = [54, 52, 107] := by decide

theorem kAwake4 (w : World) : Calls Try.prog 15 #[] w fun e w' => e = .returned (.bool true) ∧ Below w.heap.size w w' := by
  have hb0 := Below.refl w.heap.size w
  have hB0 : w.heap.size ≤ w.heap.size := Nat.le_refl _
  have c1 := fun w1 => kSizeParse ⟨#[54, 52, 107, 98]⟩ w1 (by decide)
  have c2 := fun w1 => kSizeParse ⟨#[49, 116]⟩ w1 (by decide)
  have c3 := fun w1 => kSizeText 65536 w1
  simp only [szP1.1, szP1.2, szP2.1, szP2.2, szP3] at c1 c2 c3
  have C1 := Lib.hid c1
  have C2 := Lib.hid c2
  have C3 := Lib.hid c3
  clear c1 c2 c3
  go_enter Try.func15, Try.ntmps15
  go_wp2_with fail
  refine (relD (by assumption) (by assumption) (C1.out _)).mono ?_
  rintro e w1 ⟨rfl, hb1, hB1⟩
  go_wp2_with fail
  refine (relD (by assumption) (by assumption) (C2.out _)).mono ?_
  rintro e w2 ⟨rfl, hb2, hB2⟩
  go_wp2_with fail
  refine (rel (by assumption) (by assumption) (C3.out _)).mono ?_
  rintro e w3 ⟨rfl, hb3, hB3⟩
  go_wp2_with fail
  go_ret
  exact ⟨ret_bool (by rw [bs_toList]; rfl), by assumption⟩

theorem kSizeReads (s : ByteArray) (w : World) (hs : s.size ≤ maxLen) :
    Calls Try.prog 3 #[.string s] w fun e w' => e = .returned (.bool true) ∧ Below w.heap.size w w' := by
  unfold maxLen at hs
  have hb0 := Below.refl w.heap.size w
  have hB0 : w.heap.size ≤ w.heap.size := Nat.le_refl _
  by_cases h : s.size ≤ 2000
  · have q1 : (szV s.data.toList == szV s.data.toList) = true := beqT rfl
    have q2 : (szE s.data.toList == szE s.data.toList) = true := beqT rfl
    go_enter Try.func3, Try.ntmps3
    go_wp2_with fail
    refine (relD (by assumption) (by assumption) (kSizeParse s _ (by omega))).mono ?_
    rintro e w1 ⟨rfl, hb1, hB1⟩
    go_wp2_with fail
    refine (kRefSizeParse s _ (by omega)).mono ?_
    rintro e w2 ⟨rfl, rfl⟩
    go_wp2_with fail
    refine (rel (by assumption) (by assumption) (kAwake4 _)).mono ?_
    rintro e w3 ⟨rfl, hb3, hB3⟩
    go_wp2_with fail
    go_ret
    exact ⟨rfl, by assumption⟩
  · go_enter Try.func3, Try.ntmps3
    go_wp2_with fail
    refine (rel (by assumption) (by assumption) (kAwake4 _)).mono ?_
    rintro e w3 ⟨rfl, hb3, hB3⟩
    go_wp2_with fail
    go_ret
    exact ⟨rfl, by assumption⟩

theorem kSizeWrites (n : Int) (w : World) (h1 : -9223372036854775808 ≤ n) (h2 : n ≤ 9223372036854775807) :
    Calls Try.prog 9 #[.int .i64 n] w fun e w' => e = .returned (.bool true) ∧ Below w.heap.size w w' := by
  have hb0 := Below.refl w.heap.size w
  have hB0 : w.heap.size ≤ w.heap.size := Nat.le_refl _
  have q1 : ((bs (szT n)).toList == (bs (szT n)).toList) = true := beq_self_eq_true _
  go_enter Try.func9, Try.ntmps9
  go_wp2_with fail
  refine (rel (by assumption) (by assumption) (kSizeText n _)).mono ?_
  rintro e w1 ⟨rfl, hb1, hB1⟩
  go_wp2_with fail
  refine (rel (by assumption) (by assumption) (kRefSizeText n _ h1 h2)).mono ?_
  rintro e w2 ⟨rfl, hb2, hB2⟩
  go_wp2_with fail
  refine (kSizeUnit n _).mono ?_
  rintro e w3 ⟨rfl, rfl⟩
  go_wp2_with fail
  refine (kRefSizeUnit n _).mono ?_
  rintro e w3 ⟨rfl, rfl⟩
  go_wp2_with fail
  refine (rel (by assumption) (by assumption) (kAwake4 _)).mono ?_
  rintro e w4 ⟨rfl, hb4, hB4⟩
  go_wp2_with fail
  go_ret
  exact ⟨rfl, by assumption⟩

end Go.Proofs.Ytglihjdbbpohlaa.W
