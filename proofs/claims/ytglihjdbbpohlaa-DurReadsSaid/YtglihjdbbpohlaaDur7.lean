/- Contract of the reference's reader of spans. -/
import Derived.Test.YtglihjdbbpohlaaDur4
import Derived.Test.YtglihjdbbpohlaaDur5
import Derived.Test.YtglihjdbbpohlaaDur6
import Derived.Deep.OwnRows
namespace Go.Proofs.Ytglihjdbbpohlaa.W
open Go.RowKit Go.Proofs.Ytglihjdbbpohlaa.Pl

/-- where the reference stands -/
def RefAt (l : List UInt8) (k p T : Nat) : Prop :=
  (k < l.length ∧ p ≤ 4 ∧ ∃ f, 5 - p ≤ f ∧ durO l = durF f (l.drop k) p T) ∨ (k = l.length ∧ 0 < p ∧ durO l = some T)
theorem DurAt.ref {l : List UInt8} {k p T : Nat} (h : DurAt l k p T) (hp : 0 < p) : RefAt l k p T := by
  rcases h with ⟨h1, h2, h3⟩ | h
  · exact .inl ⟨by omega, h2, h3⟩
  · exact .inr h
/-- a text's length, for a loop's measure -/
def szOf : Go.Value → Nat | .string t => t.size | _ => 0
/-- the four figures -/
def rw4 (a b c d : Nat) : Nat → Go.Value := fun j => .int .i64 ((if j = 0 then a else if j = 1 then b else if j = 2 then c else d : Nat) : Int)
theorem have_step {W wr : World} {B a b c d : Nat} {t : TypeId} (hb : Below B W wr) (hr : wr.rowIs B t 4 (rw4 a b c d)) (n i : Nat) (v : Go.Value) :
    Below B W ((wr.drewN n).setCell ⟨B, i, none⟩ v) ∧ ((wr.drewN n).setCell ⟨B, i, none⟩ v).rowIs B t 4 (fun j => if j = i then v else rw4 a b c d j) := by
  have h1 : Below B W (wr.drewN n) := ⟨hb.os, hb.tape, hb.output, hb.size, hb.block⟩
  have h2 : (wr.drewN n).rowIs B t 4 (rw4 a b c d) := hr
  exact ⟨h1.setCell (Nat.le_refl _) v, h2.set i v⟩
theorem row_to {w : World} {B : Nat} {t : TypeId} {f g : Nat → Go.Value} (h : w.rowIs B t 4 f) (h0 : f 0 = g 0) (h1 : f 1 = g 1) (h2 : f 2 = g 2) (h3 : f 3 = g 3) : w.rowIs B t 4 g :=
  h.congr fun i hi => by
    rcases (show i = 0 ∨ i = 1 ∨ i = 2 ∨ i = 3 by omega) with rfl | rfl | rfl | rfl
    · exact h0
    · exact h1
    · exact h2
    · exact h3
def SumR (T a b c d : Nat) (ov : Bool) : Prop :=
  ((ov = false ∧ T = 3600000 * a + 60000 * b + 1000 * c + d) ∨ (ov = true ∧ 1099511627776 < T)) ∧ a ≤ 1099511627776 ∧ b ≤ 1099511627776 ∧ c ≤ 1099511627776 ∧ d ≤ 1099511627776
def PlaceR (p a b c d : Nat) : Prop := p ≤ 4 ∧ (p ≤ 0 → a = 0) ∧ (p ≤ 1 → b = 0) ∧ (p ≤ 2 → c = 0) ∧ (p ≤ 3 → d = 0)

theorem kGroupTC (s : ByteArray) (w : World) (hs : s.size ≤ 140737488355328) (p lg sz : Nat) (h : uD (rst s).data.toList = some (p, lg, sz)) (f r : ByteArray) (hf : fgs s = f) (hr : (rst s).extract sz (rst s).size = r) (c : Int) (hc : (p : Int) - 1 = c) (b : Bool) (hb : wholeB f.data.toList = b) :
    Calls Try.prog 73 #[.string s] w fun e w' => e = .returned (.tuple #[.string f, .int .i64 c, .string r, .bool b]) ∧ ∃ n, w' = w.drewN n := by
  have := kGroupT s w hs p lg sz h
  rw [hf, hr, hc, hb] at this
  exact this
theorem rst_data (s : ByteArray) : (rst s).data.toList = s.data.toList.drop (lead s.data.toList) := ext_drop _ _
theorem fgs_data (s : ByteArray) : (fgs s).data.toList = s.data.toList.take (lead s.data.toList) := ext_take _ _
theorem bs_data (f : ByteArray) : f = bs f.data.toList := rfl
theorem is_zero (f : ByteArray) (hw : wholeB f.data.toList = true) (hv : val f.data.toList = 0) : (f.toList == [48]) = true := by
  rw [bs_data f, bs_toList, ← dec_val hw, hv]; rfl
theorem no_zero (f : ByteArray) (hv : val f.data.toList ≠ 0) : (f.toList == [48]) = false := by
  rw [bs_data f, bs_toList]
  exact beq_false_of_ne fun h => hv (by rw [h]; rfl)

def part (a b c d u : Nat) : Nat := (if 0 < u then 3600000 * a else 0) + (if 1 < u then 60000 * b else 0) + (if 2 < u then 1000 * c else 0) + (if 3 < u then d else 0)
def Sum2 (T a b c d u tot : Nat) (ov : Bool) : Prop := (ov = false ∧ T = 3600000 * a + 60000 * b + 1000 * c + d ∧ tot = part a b c d u) ∨ (ov = true ∧ 1099511627776 < T)

set_option maxRecDepth 100000 in
set_option maxHeartbeats 16000000 in
theorem kRefDurParse (s : ByteArray) (w : World) (hs : s.size ≤ 140737488355328) :
    Calls Try.prog 51 #[.string s] w fun e w' => e = .returned (.tuple #[.int .i64 (durV s.data.toList), .int .i64 (durE s.data.toList)]) ∧ Below w.heap.size w w' := by
  by_cases hs0 : s.size = 0
  · have HR : Hid (durV s.data.toList = 0 ∧ durE s.data.toList = 3) := Lib.hid (by obtain rfl := empty_of_size s hs0; decide)
    go_enter Try.func51, Try.ntmps51
    go_wp2_with fail
    go_ret2
    exact ⟨ret2 HR.out.1.symm HR.out.2.symm, (Below.refl _ _).alloc (Nat.le_refl _) _⟩
  have hs00 : ((s.size : Int) == 0) = false := beqF (by omega)
  have hsp : 0 < s.size := by omega
  clear hs0
  go_enter Try.func51, Try.ntmps51
  go_wp2_with fail
  go_loopw [0, 5, 6] (fun cur ov la wr => ∃ (k p T a b c d : Nat) (t : ByteArray) (o : Bool), k ≤ s.size ∧ Hid (t.data.toList = s.data.toList.drop k) ∧ t.size = s.size - k ∧ Hid (SumR T a b c d o) ∧ Hid (PlaceR p a b c d) ∧ Hid (RefAt s.data.toList k p T) ∧ cur = .string t ∧ ov = .bool o ∧ la = .int .i64 ((p : Int) - 1) ∧ Below w.heap.size w wr ∧ Hid (wr.rowIs w.heap.size 90 4 (rw4 a b c d))) (fun cur _ _ _ => szOf cur)
  case atStart =>
    refine ⟨0, 0, 0, 0, 0, 0, 0, s, false, by omega, Lib.hid rfl, by omega, Lib.hid ⟨.inl ⟨rfl, rfl⟩, by omega, by omega, by omega, by omega⟩, Lib.hid ⟨by omega, fun _ => rfl, fun _ => rfl, fun _ => rfl, fun _ => rfl⟩, Lib.hid (.inl ⟨by rw [len_eq]; omega, by omega, 5, by omega, rfl⟩), rfl, rfl, rfl, (Below.refl _ _).alloc (Nat.le_refl _) _, Lib.hid ?_⟩
    refine World.rowIs_alloc w _ _ _ fun i hi => ?_
    have hi' : i < 4 := hi
    rcases (show i = 0 ∨ i = 1 ∨ i = 2 ∨ i = 3 by omega) with rfl | rfl | rfl | rfl <;> rfl
  case round =>
    obtain ⟨k, p, T, a, b, c, d, t, ov, hk, HC, htz, HS, HP, HA, rfl, rfl, rfl, hb, HR⟩ := hrel
    by_cases h0 : t.size = 0
    · have hT : durO s.data.toList = some T := by
        rcases HA.out with ⟨h, _⟩ | ⟨_, _, h⟩
        · rw [len_eq] at h; omega
        · exact h
      have HB2 := Lib.hid (fun h : 1099511627776 < T => dur_big hT h)
      have HO2 := Lib.hid (fun h : T ≤ 1099511627776 => dur_ok hT h)
      obtain ⟨_, ha4, hb4, hc4, hd4⟩ := HS.out
      clear hT HA HP hs00 HC
      go_wp2_with fail
      refine (kLongs _).mono ?_
      rintro e w2 ⟨rfl, hb2⟩
      go_wp2_with fail
      obtain ⟨W0, hW0⟩ : ∃ W0, W0 = w2.alloc (Obj.cells #[.int .i64 3600000, .int .i64 60000, .int .i64 1000, .int .i64 1] 90) := ⟨_, rfl⟩
      rw [← hW0]
      have hs1 : w.heap.size < wr.heap.size := HR.out.lt
      have hs2 : wr.heap.size ≤ w2.heap.size := hb2.size
      have hs3 : w2.heap.size < W0.heap.size := by rw [hW0]; simp
      have hA : W0.rowIs w.heap.size 90 4 (rw4 a b c d) := by
        rw [hW0]
        exact (HR.out.of_block (hb2.block _ hs1)).alloc _
      have hL : W0.rowIs w2.heap.size 90 4 (rw4 3600000 60000 1000 1) := by
        rw [hW0]
        refine World.rowIs_alloc w2 _ _ _ fun i hi => ?_
        have hi' : i < 4 := hi
        rcases (show i = 0 ∨ i = 1 ∨ i = 2 ∨ i = 3 by omega) with rfl | rfl | rfl | rfl <;> rfl
      have hbW : Below w.heap.size w W0 := by
        rw [hW0]
        exact (hb.trans (hb2.mono (by omega))).alloc (by omega) _
      have HA2 := Lib.hid hA
      have HL2 := Lib.hid hL
      have hs4 : w.heap.size < W0.heap.size := by omega
      have hS0 : Sum2 T a b c d 0 0 ov := by
        rcases HS.out.1 with ⟨h, h2⟩ | h
        · exact .inl ⟨h, h2, rfl⟩
        · exact .inr h
      have HS0 := Lib.hid hS0
      clear hb2 hW0 hA hL HR hb hS0 HS hs1 hs2 htz hk hsp
      obtain ⟨wo, rfl⟩ : ∃ wo : World, wo = wr := ⟨_, rfl⟩
      go_loopw [5, 13, 14] (fun o1 tt i wr => ∃ (u tot : Nat) (o2 : Bool), u ≤ 4 ∧ tot ≤ 5000000000000000000 ∧ Hid (Sum2 T a b c d u tot o2) ∧ o1 = .bool o2 ∧ tt = .int .i64 tot ∧ i = .int .i64 u ∧ Below W0.heap.size W0 wr) (fun _ _ i _ => 4 - (intOf i).toNat)
      case atStart => exact ⟨0, 0, ov, by omega, by omega, HS0, rfl, rfl, rfl, Below.refl _ _⟩
      case round =>
        obtain ⟨u, tot, o2, hu, htot, HQ, rfl, rfl, rfl, hq⟩ := hrel
        have hrA : wr.rowIs w.heap.size 90 4 (rw4 a b c d) := HA2.out.of_block (hq.block _ hs4)
        have hrL : wr.rowIs w2.heap.size 90 4 (rw4 3600000 60000 1000 1) := HL2.out.of_block (hq.block _ hs3)
        have hq' : Below w.heap.size w wr := hbW.trans (hq.mono (by omega))
        rcases (show u = 0 ∨ u = 1 ∨ u = 2 ∨ u = 3 ∨ u = 4 by omega) with rfl | rfl | rfl | rfl | rfl
        · have c1 := hrA.cell (i := 0) (by omega)
          have c2 := hrL.cell (i := 0) (by omega)
          have c3 : wr.cell? ⟨w.heap.size, 0, none⟩ = some (.int .i64 (a : Int)) := c1
          have c4 : wr.cell? ⟨w2.heap.size, 0, none⟩ = some (.int .i64 3600000) := c2
          clear c1 c2 hrA hrL
          have hdv : (1099511627776 : Int).tdiv 3600000 = 305419 := by decide
          have hwv : IntKind.i64.wrap 305419 = 305419 := by decide
          have hwm : IntKind.i64.wrap ((a : Int) * 3600000) = (a : Int) * 3600000 := IntWalk.i64_in _ (by omega)
          have hwa : IntKind.i64.wrap ((tot : Int) + (a : Int) * 3600000) = (tot : Int) + (a : Int) * 3600000 := IntWalk.i64_in _ (by omega)
          have hqd : ∀ n, Below W0.heap.size W0 (wr.drewN n) := fun n => ⟨hq.os, hq.tape, hq.output, hq.size, hq.block⟩
          cases o2 with
          | true =>
            have HQ2 : Hid (Sum2 T a b c d 1 tot true) := Lib.hid (by
              rcases HQ.out with ⟨h, _⟩ | h
              · cases h
              · exact .inr h)
            by_cases hx : 305419 < a
            all_goals
              go_wp2_with fail
              go_quiet (fail)
              go_wp2
              go_roundw
              case rel => exact ⟨1, tot, true, by omega, by omega, HQ2, rfl, rfl, rfl, hqd _⟩
              case measure => simp [intOf]
          | false =>
            by_cases hx : 305419 < a
            · have HQ2 : Hid (Sum2 T a b c d 1 tot true) := Lib.hid (by
                rcases HQ.out with ⟨_, h, _⟩ | ⟨h, _⟩
                · exact .inr ⟨rfl, by omega⟩
                · cases h)
              go_wp2_with fail
              go_quiet (fail)
              go_wp2
              go_roundw
              case rel => exact ⟨1, tot, true, by omega, by omega, HQ2, rfl, rfl, rfl, hqd _⟩
              case measure => simp [intOf]
            · have HQ2 : Hid (Sum2 T a b c d 1 (tot + a * 3600000) false) := Lib.hid (by
                rcases HQ.out with ⟨_, h, h2⟩ | ⟨h, _⟩
                · exact .inl ⟨rfl, h, by rw [h2]; unfold part; simp <;> omega⟩
                · cases h)
              have hbd : tot + a * 3600000 ≤ 5000000000000000000 := by
                rcases HQ.out with ⟨_, _, h2⟩ | ⟨h, _⟩
                · rw [h2]; unfold part; simp; omega
                · cases h
              go_wp2_with fail
              go_quiet (fail)
              go_wp2
              go_quiet (fail)
              go_wp2
              go_roundw
              case rel => exact ⟨1, tot + a * 3600000, false, by omega, hbd, HQ2, rfl, by go_num, rfl, hqd _⟩
              case measure => simp [intOf]
        · have c1 := hrA.cell (i := 1) (by omega)
          have c2 := hrL.cell (i := 1) (by omega)
          have c3 : wr.cell? ⟨w.heap.size, 1, none⟩ = some (.int .i64 (b : Int)) := c1
          have c4 : wr.cell? ⟨w2.heap.size, 1, none⟩ = some (.int .i64 60000) := c2
          clear c1 c2 hrA hrL
          have hdv : (1099511627776 : Int).tdiv 60000 = 18325193 := by decide
          have hwv : IntKind.i64.wrap 18325193 = 18325193 := by decide
          have hwm : IntKind.i64.wrap ((b : Int) * 60000) = (b : Int) * 60000 := IntWalk.i64_in _ (by omega)
          have hwa : IntKind.i64.wrap ((tot : Int) + (b : Int) * 60000) = (tot : Int) + (b : Int) * 60000 := IntWalk.i64_in _ (by omega)
          have hqd : ∀ n, Below W0.heap.size W0 (wr.drewN n) := fun n => ⟨hq.os, hq.tape, hq.output, hq.size, hq.block⟩
          cases o2 with
          | true =>
            have HQ2 : Hid (Sum2 T a b c d 2 tot true) := Lib.hid (by
              rcases HQ.out with ⟨h, _⟩ | h
              · cases h
              · exact .inr h)
            by_cases hx : 18325193 < b
            all_goals
              go_wp2_with fail
              go_quiet (fail)
              go_wp2
              go_roundw
              case rel => exact ⟨2, tot, true, by omega, by omega, HQ2, rfl, rfl, rfl, hqd _⟩
              case measure => simp [intOf]
          | false =>
            by_cases hx : 18325193 < b
            · have HQ2 : Hid (Sum2 T a b c d 2 tot true) := Lib.hid (by
                rcases HQ.out with ⟨_, h, _⟩ | ⟨h, _⟩
                · exact .inr ⟨rfl, by omega⟩
                · cases h)
              go_wp2_with fail
              go_quiet (fail)
              go_wp2
              go_roundw
              case rel => exact ⟨2, tot, true, by omega, by omega, HQ2, rfl, rfl, rfl, hqd _⟩
              case measure => simp [intOf]
            · have HQ2 : Hid (Sum2 T a b c d 2 (tot + b * 60000) false) := Lib.hid (by
                rcases HQ.out with ⟨_, h, h2⟩ | ⟨h, _⟩
                · exact .inl ⟨rfl, h, by rw [h2]; unfold part; simp <;> omega⟩
                · cases h)
              have hbd : tot + b * 60000 ≤ 5000000000000000000 := by
                rcases HQ.out with ⟨_, _, h2⟩ | ⟨h, _⟩
                · rw [h2]; unfold part; simp; omega
                · cases h
              go_wp2_with fail
              go_quiet (fail)
              go_wp2
              go_quiet (fail)
              go_wp2
              go_roundw
              case rel => exact ⟨2, tot + b * 60000, false, by omega, hbd, HQ2, rfl, by go_num, rfl, hqd _⟩
              case measure => simp [intOf]
        · have c1 := hrA.cell (i := 2) (by omega)
          have c2 := hrL.cell (i := 2) (by omega)
          have c3 : wr.cell? ⟨w.heap.size, 2, none⟩ = some (.int .i64 (c : Int)) := c1
          have c4 : wr.cell? ⟨w2.heap.size, 2, none⟩ = some (.int .i64 1000) := c2
          clear c1 c2 hrA hrL
          have hdv : (1099511627776 : Int).tdiv 1000 = 1099511627 := by decide
          have hwv : IntKind.i64.wrap 1099511627 = 1099511627 := by decide
          have hwm : IntKind.i64.wrap ((c : Int) * 1000) = (c : Int) * 1000 := IntWalk.i64_in _ (by omega)
          have hwa : IntKind.i64.wrap ((tot : Int) + (c : Int) * 1000) = (tot : Int) + (c : Int) * 1000 := IntWalk.i64_in _ (by omega)
          have hqd : ∀ n, Below W0.heap.size W0 (wr.drewN n) := fun n => ⟨hq.os, hq.tape, hq.output, hq.size, hq.block⟩
          cases o2 with
          | true =>
            have HQ2 : Hid (Sum2 T a b c d 3 tot true) := Lib.hid (by
              rcases HQ.out with ⟨h, _⟩ | h
              · cases h
              · exact .inr h)
            by_cases hx : 1099511627 < c
            all_goals
              go_wp2_with fail
              go_quiet (fail)
              go_wp2
              go_roundw
              case rel => exact ⟨3, tot, true, by omega, by omega, HQ2, rfl, rfl, rfl, hqd _⟩
              case measure => simp [intOf]
          | false =>
            by_cases hx : 1099511627 < c
            · have HQ2 : Hid (Sum2 T a b c d 3 tot true) := Lib.hid (by
                rcases HQ.out with ⟨_, h, _⟩ | ⟨h, _⟩
                · exact .inr ⟨rfl, by omega⟩
                · cases h)
              go_wp2_with fail
              go_quiet (fail)
              go_wp2
              go_roundw
              case rel => exact ⟨3, tot, true, by omega, by omega, HQ2, rfl, rfl, rfl, hqd _⟩
              case measure => simp [intOf]
            · have HQ2 : Hid (Sum2 T a b c d 3 (tot + c * 1000) false) := Lib.hid (by
                rcases HQ.out with ⟨_, h, h2⟩ | ⟨h, _⟩
                · exact .inl ⟨rfl, h, by rw [h2]; unfold part; simp <;> omega⟩
                · cases h)
              have hbd : tot + c * 1000 ≤ 5000000000000000000 := by
                rcases HQ.out with ⟨_, _, h2⟩ | ⟨h, _⟩
                · rw [h2]; unfold part; simp; omega
                · cases h
              go_wp2_with fail
              go_quiet (fail)
              go_wp2
              go_quiet (fail)
              go_wp2
              go_roundw
              case rel => exact ⟨3, tot + c * 1000, false, by omega, hbd, HQ2, rfl, by go_num, rfl, hqd _⟩
              case measure => simp [intOf]
        · have c1 := hrA.cell (i := 3) (by omega)
          have c2 := hrL.cell (i := 3) (by omega)
          have c3 : wr.cell? ⟨w.heap.size, 3, none⟩ = some (.int .i64 (d : Int)) := c1
          have c4 : wr.cell? ⟨w2.heap.size, 3, none⟩ = some (.int .i64 1) := c2
          clear c1 c2 hrA hrL
          have hdv : (1099511627776 : Int).tdiv 1 = 1099511627776 := by decide
          have hwv : IntKind.i64.wrap 1099511627776 = 1099511627776 := by decide
          have hwm : IntKind.i64.wrap ((d : Int) * 1) = (d : Int) * 1 := IntWalk.i64_in _ (by omega)
          have hwa : IntKind.i64.wrap ((tot : Int) + (d : Int) * 1) = (tot : Int) + (d : Int) * 1 := IntWalk.i64_in _ (by omega)
          have hqd : ∀ n, Below W0.heap.size W0 (wr.drewN n) := fun n => ⟨hq.os, hq.tape, hq.output, hq.size, hq.block⟩
          cases o2 with
          | true =>
            have HQ2 : Hid (Sum2 T a b c d 4 tot true) := Lib.hid (by
              rcases HQ.out with ⟨h, _⟩ | h
              · cases h
              · exact .inr h)
            go_wp2_with fail
            go_quiet (fail)
            go_wp2
            go_roundw
            case rel => exact ⟨4, tot, true, by omega, by omega, HQ2, rfl, rfl, rfl, hqd _⟩
            case measure => simp [intOf]
          | false =>
            · have HQ2 : Hid (Sum2 T a b c d 4 (tot + d * 1) false) := Lib.hid (by
                rcases HQ.out with ⟨_, h, h2⟩ | ⟨h, _⟩
                · exact .inl ⟨rfl, h, by rw [h2]; unfold part; simp <;> omega⟩
                · cases h)
              have hbd : tot + d * 1 ≤ 5000000000000000000 := by
                rcases HQ.out with ⟨_, _, h2⟩ | ⟨h, _⟩
                · rw [h2]; unfold part; simp; omega
                · cases h
              go_wp2_with fail
              go_quiet (fail)
              go_wp2
              go_quiet (fail)
              go_wp2
              go_roundw
              case rel => exact ⟨4, tot + d * 1, false, by omega, hbd, HQ2, rfl, by go_num, rfl, hqd _⟩
              case measure => simp [intOf]
        · clear hrA hrL
          cases o2 with
          | true =>
            have hT : 1099511627776 < T := by
              rcases HQ.out with ⟨h, _⟩ | ⟨_, h⟩
              · cases h
              · exact h
            have HX := Lib.hid (HB2.out hT)
            clear hT
            go_wp2_with fail
            go_ret2
            exact ⟨ret2 HX.out.2.symm HX.out.1.symm, hq'⟩
          | false =>
            have hT : T = tot := by
              rcases HQ.out with ⟨_, h1, h2⟩ | ⟨h, _⟩
              · rw [h1, h2]; unfold part; simp
              · cases h
            by_cases hbig : 1099511627776 < tot
            · have HX := Lib.hid (HB2.out (by omega))
              clear hT
              go_wp2_with fail
              go_ret2
              exact ⟨ret2 HX.out.2.symm HX.out.1.symm, hq'⟩
            · have HX : Hid (durE s.data.toList = 0 ∧ durV s.data.toList = (tot : Int)) := Lib.hid (by rw [← hT]; exact HO2.out (by omega))
              clear hT
              go_wp2_with fail
              go_ret2
              exact ⟨ret2 HX.out.2.symm HX.out.1.symm, hq'⟩
    · have hp4 := HP.out.1
      have hlen := len_eq s
      obtain ⟨f, hf, hdo⟩ : ∃ f, 5 - p ≤ f ∧ durO s.data.toList = durF f (s.data.toList.drop k) p T := by
        rcases HA.out with ⟨_, _, h⟩ | ⟨h, _⟩
        · exact h
        · rw [hlen] at h; omega
      have HF : Hid (durO s.data.toList = durF f t.data.toList p T) := Lib.hid (by rw [HC.out]; exact hdo)
      clear hdo HA hlen
      have hts : t.size ≤ 140737488355328 := by omega
      have bad : durO s.data.toList = none → Hid (durV s.data.toList = 0 ∧ durE s.data.toList = 3) := fun h => Lib.hid ⟨(dur_none h).2, (dur_none h).1⟩
      cases hu : uD (rst t).data.toList with
      | none =>
        have HX := bad (by rw [HF.out]; exact durF_nounit (by rw [← rst_data]; exact hu))
        have hg := Lib.hid (fun w1 => kGroupF t w1 hts hu)
        clear hu bad
        go_wp2_with fail
        refine (hg.out _).mono ?_
        rintro e w2 ⟨rfl, n, rfl⟩
        go_wp2_with fail
        go_ret2
        exact ⟨ret2 HX.out.1.symm HX.out.2.symm, ⟨hb.os, hb.tape, hb.output, hb.size, hb.block⟩⟩
      | some x =>
        obtain ⟨q, lg, sz⟩ := x
        have hu' : uD (t.data.toList.drop (lead t.data.toList)) = some (q, lg, sz) := by rw [← rst_data]; exact hu
        obtain ⟨hle, hx⟩ := uD_some hu
        obtain ⟨hq1, hq4, hsz1, hsz2, _, _⟩ := uD_place hu
        obtain ⟨f0, hf0⟩ : ∃ f0, fgs t = f0 := ⟨_, rfl⟩
        obtain ⟨r, hr⟩ : ∃ r, (rst t).extract sz (rst t).size = r := ⟨_, rfl⟩
        have hfd : f0.data.toList = t.data.toList.take (lead t.data.toList) := by rw [← hf0]; exact fgs_data t
        have hrd : r.data.toList = t.data.toList.drop (lead t.data.toList + sz) := by rw [← hr, ext_drop, rst_data, List.drop_drop]
        have hfs : f0.size ≤ 140737488355328 := by rw [← hf0]; exact ext_size _ _ _ hts
        have hrs : r.size = t.size - (lead t.data.toList + sz) := by rw [← len_eq, hrd, List.length_drop, len_eq]
        rw [rst_data, List.length_drop, len_eq] at hle
        cases hw : wholeB f0.data.toList
        · have HX := bad (by rw [HF.out]; exact durF_nowhole (by rw [← hfd]; exact hw))
          have hg := Lib.hid (fun w1 => kGroupTC t w1 hts q lg sz hu f0 r hf0 hr _ rfl false hw)
          clear hu bad hu' hx hf0 hr hfd hrd hrs hw
          go_wp2_with fail
          refine (hg.out _).mono ?_
          rintro e w2 ⟨rfl, n, rfl⟩
          go_wp2_with fail
          go_ret2
          exact ⟨ret2 HX.out.1.symm HX.out.2.symm, ⟨hb.os, hb.tape, hb.output, hb.size, hb.block⟩⟩
        · by_cases hqp : q ≤ p
          · have HX := bad (by rw [HF.out]; exact durF_order hu' hqp)
            have hg := Lib.hid (fun w1 => kGroupTC t w1 hts q lg sz hu f0 r hf0 hr _ rfl true hw)
            clear hu bad hu' hx hf0 hr hfd hrd hrs hw
            go_wp2_with fail
            refine (hg.out _).mono ?_
            rintro e w2 ⟨rfl, n, rfl⟩
            go_wp2_with fail
            go_ret2
            exact ⟨ret2 HX.out.1.symm HX.out.2.symm, ⟨hb.os, hb.tape, hb.output, hb.size, hb.block⟩⟩
          · by_cases hz : val f0.data.toList = 0 ∧ (0 < p ∨ 0 < r.size)
            · obtain ⟨hz, hz2⟩ := hz
              have e1 := is_zero f0 hw hz
              have HX := bad (by
                rw [HF.out]
                refine durF_zero hu' (by rw [← hfd]; exact hz) ?_
                rcases hz2 with h | h
                · exact .inl h
                · refine .inr ?_
                  rw [← hrd]
                  intro e
                  have := congrArg List.length e
                  rw [len_eq, List.length_nil] at this; omega)
              have hg := Lib.hid (fun w1 => kGroupTC t w1 hts q lg sz hu f0 r hf0 hr _ rfl true hw)
              have hz3 : 0 < p ∨ (p = 0 ∧ 0 < r.size) := by omega
              clear hu bad hu' hx hf0 hr hfd hrd hrs hw hz hz2
              rcases hz3 with hz3 | ⟨rfl, hz3⟩
              all_goals
                go_wp2_with fail
                refine (hg.out _).mono ?_
                rintro e w2 ⟨rfl, n, rfl⟩
                go_wp2_with fail
                go_ret2
                exact ⟨ret2 HX.out.1.symm HX.out.2.symm, ⟨hb.os, hb.tape, hb.output, hb.size, hb.block⟩⟩
            · have hdo : durO s.data.toList = durF f (s.data.toList.drop k) p T := by rw [← HC.out]; exact HF.out
              have hst := dur_step (l := s.data.toList) (at_ := k) (last := p) (T := T) (p := q) (lg := lg) (sz := sz) hp4 hf hdo (by rw [← HC.out]; exact hu') (by rw [← HC.out, ← hfd]; exact hw) (by omega)
                (by rw [← HC.out, ← hfd, len_eq]; by_cases h : val f0.data.toList = 0; exact .inr ⟨by omega, by omega⟩; exact .inl h) (by rw [← HC.out, len_eq]; omega)
              rw [← HC.out, ← hfd] at hst
              have HN := Lib.hid (hst.ref (by omega))
              have HC2 : Hid (r.data.toList = s.data.toList.drop (k + lead t.data.toList + sz)) := Lib.hid (by rw [hrd, HC.out, List.drop_drop]; congr 1; omega)
              have hk2 : k + lead t.data.toList + sz ≤ s.size := by omega
              have hrs2 : r.size = s.size - (k + lead t.data.toList + sz) := by omega
              have hdig := wholeB_dig hw
              have hz4 : (val f0.data.toList = 0 ∧ p = 0 ∧ r.size = 0) ∨ (val f0.data.toList ≠ 0 ∧ val f0.data.toList ≤ 1099511627776) ∨ (val f0.data.toList ≠ 0 ∧ 1099511627776 < val f0.data.toList) := by omega
              have hz5 : val f0.data.toList ≤ 1099511627776 → valS f0.data.toList = val f0.data.toList := fun h => valS_small (by omega)
              have hz6 : 1099511627776 < val f0.data.toList → 1099511627776 < valS f0.data.toList ∧ valS f0.data.toList ≤ 9223372036854775807 := fun h => by unfold valS; split <;> omega
              have e0 : val f0.data.toList = 0 → (f0.toList == [48]) = true := fun h => is_zero f0 hw h
              have e1 : val f0.data.toList ≠ 0 → (f0.toList == [48]) = false := no_zero f0
              have hv0 := fun w1 c h => kValueC f0 w1 hfs hdig c h
              have hg0 := fun c h w1 => kGroupTC t w1 hts q lg sz hu f0 r hf0 hr c h true hw
              generalize hK : k + lead t.data.toList + sz = K at *
              generalize hV : val f0.data.toList = v at *
              have hrt : r.size < t.size := by omega
              clear hu bad hu' hf0 hr hfd hrd hrs hw hz hdo hst hdig hK hV hle
              rcases hx with ⟨rfl, rfl, rfl, _⟩ | ⟨rfl, rfl, rfl, _⟩ | ⟨rfl, rfl, rfl, _⟩ | ⟨rfl, rfl, rfl, _⟩
              · have hg := Lib.hid (fun w1 => hg0 0 (by omega) w1)
                have HP2 : Hid (PlaceR 1 v b c d) := Lib.hid (by have := HP.out; unfold PlaceR at *; omega)
                rcases hz4 with ⟨hv1, rfl, hr0⟩ | ⟨hv1, hv2⟩ | ⟨hv1, hv2⟩
                · have q1 := e0 hv1
                  have hvc := hz5 (by omega)
                  have hv := Lib.hid (fun w1 => hv0 w1 (v : Int) hvc)
                  have HS2 : Hid (SumR (T + v * 3600000) v b c d ov) := Lib.hid (by
                    have hP := HP.out
                    unfold PlaceR at hP
                    obtain ⟨h, h1, h2, h3, h4⟩ := HS.out
                    refine ⟨?_, by omega, by omega, by omega, by omega⟩
                    rcases h with ⟨h, h5⟩ | ⟨h, h5⟩
                    · exact .inl ⟨h, by omega⟩
                    · exact .inr ⟨h, by omega⟩)
                  have HP3 := HP2
                  have hvm : v ≤ 1099511627776 := by omega
                  clear hz5 hz6 e0 e1 hv0 hg0 HP2 hvc hv1
                  go_wp2_with fail
                  refine (hg.out _).mono ?_
                  rintro e w2 ⟨rfl, n, rfl⟩
                  have hs1 := have_step hb HR.out n 0 (.int .i64 (v : Int))
                  have hc1 := (show (wr.drewN n).rowIs w.heap.size 90 4 (rw4 a b c d) from HR.out).cell (i := 0) (by omega)
                  have hc2 := (show (wr.drewN n).rowIs w.heap.size 90 4 (rw4 a b c d) from HR.out).frozen 0
                  go_wp2_with fail
                  refine (hv.out _).mono ?_
                  rintro e w3 ⟨rfl, rfl⟩
                  go_wp2_with fail
                  go_roundw
                  case rel => exact ⟨K, 1, T + v * 3600000, v, b, c, d, r, _, hk2, HC2, hrs2, HS2, HP3, HN, rfl, rfl, by first | rfl | (congr 1; done), hs1.1, Lib.hid (row_to hs1.2 rfl rfl rfl rfl)⟩
                  case measure => exact hrt
                · have q1 := e1 hv1
                  have hvc := hz5 (by omega)
                  have hv := Lib.hid (fun w1 => hv0 w1 (v : Int) hvc)
                  have HS2 : Hid (SumR (T + v * 3600000) v b c d ov) := Lib.hid (by
                    have hP := HP.out
                    unfold PlaceR at hP
                    obtain ⟨h, h1, h2, h3, h4⟩ := HS.out
                    refine ⟨?_, by omega, by omega, by omega, by omega⟩
                    rcases h with ⟨h, h5⟩ | ⟨h, h5⟩
                    · exact .inl ⟨h, by omega⟩
                    · exact .inr ⟨h, by omega⟩)
                  have HP3 := HP2
                  have hvm : v ≤ 1099511627776 := by omega
                  clear hz5 hz6 e0 e1 hv0 hg0 HP2 hvc hv1
                  go_wp2_with fail
                  refine (hg.out _).mono ?_
                  rintro e w2 ⟨rfl, n, rfl⟩
                  have hs1 := have_step hb HR.out n 0 (.int .i64 (v : Int))
                  have hc1 := (show (wr.drewN n).rowIs w.heap.size 90 4 (rw4 a b c d) from HR.out).cell (i := 0) (by omega)
                  have hc2 := (show (wr.drewN n).rowIs w.heap.size 90 4 (rw4 a b c d) from HR.out).frozen 0
                  go_wp2_with fail
                  refine (hv.out _).mono ?_
                  rintro e w3 ⟨rfl, rfl⟩
                  go_wp2_with fail
                  go_roundw
                  case rel => exact ⟨K, 1, T + v * 3600000, v, b, c, d, r, _, hk2, HC2, hrs2, HS2, HP3, HN, rfl, rfl, by first | rfl | (congr 1; done), hs1.1, Lib.hid (row_to hs1.2 rfl rfl rfl rfl)⟩
                  case measure => exact hrt
                · have q1 := e1 hv1
                  obtain ⟨hm1, hm2⟩ := hz6 hv2
                  generalize valS f0.data.toList = nv at *
                  have hv := Lib.hid (fun w1 => hv0 w1 nv rfl)
                  have HS2 : Hid (SumR (T + v * 3600000) 0 b c d true) := Lib.hid (by obtain ⟨h, h1, h2, h3, h4⟩ := HS.out; exact ⟨.inr ⟨rfl, by omega⟩, by omega, by omega, by omega, by omega⟩)
                  have HP3 : Hid (PlaceR 1 0 b c d) := Lib.hid (by have := HP.out; unfold PlaceR at *; omega)
                  clear hz5 hz6 e0 e1 hv0 hg0 hv1 HP2
                  go_wp2_with fail
                  refine (hg.out _).mono ?_
                  rintro e w2 ⟨rfl, n, rfl⟩
                  have hs1 := have_step hb HR.out n 0 (.int .i64 0)
                  have hc1 := (show (wr.drewN n).rowIs w.heap.size 90 4 (rw4 a b c d) from HR.out).cell (i := 0) (by omega)
                  have hc2 := (show (wr.drewN n).rowIs w.heap.size 90 4 (rw4 a b c d) from HR.out).frozen 0
                  go_wp2_with fail
                  refine (hv.out _).mono ?_
                  rintro e w3 ⟨rfl, rfl⟩
                  go_wp2_with fail
                  go_roundw
                  case rel => exact ⟨K, 1, T + v * 3600000, 0, b, c, d, r, _, hk2, HC2, hrs2, HS2, HP3, HN, rfl, rfl, by first | rfl | (congr 1; done), hs1.1, Lib.hid (row_to hs1.2 rfl rfl rfl rfl)⟩
                  case measure => exact hrt
              · have hg := Lib.hid (fun w1 => hg0 3 (by omega) w1)
                have HP2 : Hid (PlaceR 4 a b c v) := Lib.hid (by have := HP.out; unfold PlaceR at *; omega)
                rcases hz4 with ⟨hv1, rfl, hr0⟩ | ⟨hv1, hv2⟩ | ⟨hv1, hv2⟩
                · have q1 := e0 hv1
                  have hvc := hz5 (by omega)
                  have hv := Lib.hid (fun w1 => hv0 w1 (v : Int) hvc)
                  have HS2 : Hid (SumR (T + v * 1) a b c v ov) := Lib.hid (by
                    have hP := HP.out
                    unfold PlaceR at hP
                    obtain ⟨h, h1, h2, h3, h4⟩ := HS.out
                    refine ⟨?_, by omega, by omega, by omega, by omega⟩
                    rcases h with ⟨h, h5⟩ | ⟨h, h5⟩
                    · exact .inl ⟨h, by omega⟩
                    · exact .inr ⟨h, by omega⟩)
                  have HP3 := HP2
                  have hvm : v ≤ 1099511627776 := by omega
                  clear hz5 hz6 e0 e1 hv0 hg0 HP2 hvc hv1
                  go_wp2_with fail
                  refine (hg.out _).mono ?_
                  rintro e w2 ⟨rfl, n, rfl⟩
                  have hs1 := have_step hb HR.out n 3 (.int .i64 (v : Int))
                  have hc1 := (show (wr.drewN n).rowIs w.heap.size 90 4 (rw4 a b c d) from HR.out).cell (i := 3) (by omega)
                  have hc2 := (show (wr.drewN n).rowIs w.heap.size 90 4 (rw4 a b c d) from HR.out).frozen 3
                  go_wp2_with fail
                  refine (hv.out _).mono ?_
                  rintro e w3 ⟨rfl, rfl⟩
                  go_wp2_with fail
                  go_roundw
                  case rel => exact ⟨K, 4, T + v * 1, a, b, c, v, r, _, hk2, HC2, hrs2, HS2, HP3, HN, rfl, rfl, by first | rfl | (congr 1; done), hs1.1, Lib.hid (row_to hs1.2 rfl rfl rfl rfl)⟩
                  case measure => exact hrt
                · have q1 := e1 hv1
                  have hvc := hz5 (by omega)
                  have hv := Lib.hid (fun w1 => hv0 w1 (v : Int) hvc)
                  have HS2 : Hid (SumR (T + v * 1) a b c v ov) := Lib.hid (by
                    have hP := HP.out
                    unfold PlaceR at hP
                    obtain ⟨h, h1, h2, h3, h4⟩ := HS.out
                    refine ⟨?_, by omega, by omega, by omega, by omega⟩
                    rcases h with ⟨h, h5⟩ | ⟨h, h5⟩
                    · exact .inl ⟨h, by omega⟩
                    · exact .inr ⟨h, by omega⟩)
                  have HP3 := HP2
                  have hvm : v ≤ 1099511627776 := by omega
                  clear hz5 hz6 e0 e1 hv0 hg0 HP2 hvc hv1
                  go_wp2_with fail
                  refine (hg.out _).mono ?_
                  rintro e w2 ⟨rfl, n, rfl⟩
                  have hs1 := have_step hb HR.out n 3 (.int .i64 (v : Int))
                  have hc1 := (show (wr.drewN n).rowIs w.heap.size 90 4 (rw4 a b c d) from HR.out).cell (i := 3) (by omega)
                  have hc2 := (show (wr.drewN n).rowIs w.heap.size 90 4 (rw4 a b c d) from HR.out).frozen 3
                  go_wp2_with fail
                  refine (hv.out _).mono ?_
                  rintro e w3 ⟨rfl, rfl⟩
                  go_wp2_with fail
                  go_roundw
                  case rel => exact ⟨K, 4, T + v * 1, a, b, c, v, r, _, hk2, HC2, hrs2, HS2, HP3, HN, rfl, rfl, by first | rfl | (congr 1; done), hs1.1, Lib.hid (row_to hs1.2 rfl rfl rfl rfl)⟩
                  case measure => exact hrt
                · have q1 := e1 hv1
                  obtain ⟨hm1, hm2⟩ := hz6 hv2
                  generalize valS f0.data.toList = nv at *
                  have hv := Lib.hid (fun w1 => hv0 w1 nv rfl)
                  have HS2 : Hid (SumR (T + v * 1) a b c 0 true) := Lib.hid (by obtain ⟨h, h1, h2, h3, h4⟩ := HS.out; exact ⟨.inr ⟨rfl, by omega⟩, by omega, by omega, by omega, by omega⟩)
                  have HP3 : Hid (PlaceR 4 a b c 0) := Lib.hid (by have := HP.out; unfold PlaceR at *; omega)
                  clear hz5 hz6 e0 e1 hv0 hg0 hv1 HP2
                  go_wp2_with fail
                  refine (hg.out _).mono ?_
                  rintro e w2 ⟨rfl, n, rfl⟩
                  have hs1 := have_step hb HR.out n 3 (.int .i64 0)
                  have hc1 := (show (wr.drewN n).rowIs w.heap.size 90 4 (rw4 a b c d) from HR.out).cell (i := 3) (by omega)
                  have hc2 := (show (wr.drewN n).rowIs w.heap.size 90 4 (rw4 a b c d) from HR.out).frozen 3
                  go_wp2_with fail
                  refine (hv.out _).mono ?_
                  rintro e w3 ⟨rfl, rfl⟩
                  go_wp2_with fail
                  go_roundw
                  case rel => exact ⟨K, 4, T + v * 1, a, b, c, 0, r, _, hk2, HC2, hrs2, HS2, HP3, HN, rfl, rfl, by first | rfl | (congr 1; done), hs1.1, Lib.hid (row_to hs1.2 rfl rfl rfl rfl)⟩
                  case measure => exact hrt
              · have hg := Lib.hid (fun w1 => hg0 1 (by omega) w1)
                have HP2 : Hid (PlaceR 2 a v c d) := Lib.hid (by have := HP.out; unfold PlaceR at *; omega)
                rcases hz4 with ⟨hv1, rfl, hr0⟩ | ⟨hv1, hv2⟩ | ⟨hv1, hv2⟩
                · have q1 := e0 hv1
                  have hvc := hz5 (by omega)
                  have hv := Lib.hid (fun w1 => hv0 w1 (v : Int) hvc)
                  have HS2 : Hid (SumR (T + v * 60000) a v c d ov) := Lib.hid (by
                    have hP := HP.out
                    unfold PlaceR at hP
                    obtain ⟨h, h1, h2, h3, h4⟩ := HS.out
                    refine ⟨?_, by omega, by omega, by omega, by omega⟩
                    rcases h with ⟨h, h5⟩ | ⟨h, h5⟩
                    · exact .inl ⟨h, by omega⟩
                    · exact .inr ⟨h, by omega⟩)
                  have HP3 := HP2
                  have hvm : v ≤ 1099511627776 := by omega
                  clear hz5 hz6 e0 e1 hv0 hg0 HP2 hvc hv1
                  go_wp2_with fail
                  refine (hg.out _).mono ?_
                  rintro e w2 ⟨rfl, n, rfl⟩
                  have hs1 := have_step hb HR.out n 1 (.int .i64 (v : Int))
                  have hc1 := (show (wr.drewN n).rowIs w.heap.size 90 4 (rw4 a b c d) from HR.out).cell (i := 1) (by omega)
                  have hc2 := (show (wr.drewN n).rowIs w.heap.size 90 4 (rw4 a b c d) from HR.out).frozen 1
                  go_wp2_with fail
                  refine (hv.out _).mono ?_
                  rintro e w3 ⟨rfl, rfl⟩
                  go_wp2_with fail
                  go_roundw
                  case rel => exact ⟨K, 2, T + v * 60000, a, v, c, d, r, _, hk2, HC2, hrs2, HS2, HP3, HN, rfl, rfl, by first | rfl | (congr 1; done), hs1.1, Lib.hid (row_to hs1.2 rfl rfl rfl rfl)⟩
                  case measure => exact hrt
                · have q1 := e1 hv1
                  have hvc := hz5 (by omega)
                  have hv := Lib.hid (fun w1 => hv0 w1 (v : Int) hvc)
                  have HS2 : Hid (SumR (T + v * 60000) a v c d ov) := Lib.hid (by
                    have hP := HP.out
                    unfold PlaceR at hP
                    obtain ⟨h, h1, h2, h3, h4⟩ := HS.out
                    refine ⟨?_, by omega, by omega, by omega, by omega⟩
                    rcases h with ⟨h, h5⟩ | ⟨h, h5⟩
                    · exact .inl ⟨h, by omega⟩
                    · exact .inr ⟨h, by omega⟩)
                  have HP3 := HP2
                  have hvm : v ≤ 1099511627776 := by omega
                  clear hz5 hz6 e0 e1 hv0 hg0 HP2 hvc hv1
                  go_wp2_with fail
                  refine (hg.out _).mono ?_
                  rintro e w2 ⟨rfl, n, rfl⟩
                  have hs1 := have_step hb HR.out n 1 (.int .i64 (v : Int))
                  have hc1 := (show (wr.drewN n).rowIs w.heap.size 90 4 (rw4 a b c d) from HR.out).cell (i := 1) (by omega)
                  have hc2 := (show (wr.drewN n).rowIs w.heap.size 90 4 (rw4 a b c d) from HR.out).frozen 1
                  go_wp2_with fail
                  refine (hv.out _).mono ?_
                  rintro e w3 ⟨rfl, rfl⟩
                  go_wp2_with fail
                  go_roundw
                  case rel => exact ⟨K, 2, T + v * 60000, a, v, c, d, r, _, hk2, HC2, hrs2, HS2, HP3, HN, rfl, rfl, by first | rfl | (congr 1; done), hs1.1, Lib.hid (row_to hs1.2 rfl rfl rfl rfl)⟩
                  case measure => exact hrt
                · have q1 := e1 hv1
                  obtain ⟨hm1, hm2⟩ := hz6 hv2
                  generalize valS f0.data.toList = nv at *
                  have hv := Lib.hid (fun w1 => hv0 w1 nv rfl)
                  have HS2 : Hid (SumR (T + v * 60000) a 0 c d true) := Lib.hid (by obtain ⟨h, h1, h2, h3, h4⟩ := HS.out; exact ⟨.inr ⟨rfl, by omega⟩, by omega, by omega, by omega, by omega⟩)
                  have HP3 : Hid (PlaceR 2 a 0 c d) := Lib.hid (by have := HP.out; unfold PlaceR at *; omega)
                  clear hz5 hz6 e0 e1 hv0 hg0 hv1 HP2
                  go_wp2_with fail
                  refine (hg.out _).mono ?_
                  rintro e w2 ⟨rfl, n, rfl⟩
                  have hs1 := have_step hb HR.out n 1 (.int .i64 0)
                  have hc1 := (show (wr.drewN n).rowIs w.heap.size 90 4 (rw4 a b c d) from HR.out).cell (i := 1) (by omega)
                  have hc2 := (show (wr.drewN n).rowIs w.heap.size 90 4 (rw4 a b c d) from HR.out).frozen 1
                  go_wp2_with fail
                  refine (hv.out _).mono ?_
                  rintro e w3 ⟨rfl, rfl⟩
                  go_wp2_with fail
                  go_roundw
                  case rel => exact ⟨K, 2, T + v * 60000, a, 0, c, d, r, _, hk2, HC2, hrs2, HS2, HP3, HN, rfl, rfl, by first | rfl | (congr 1; done), hs1.1, Lib.hid (row_to hs1.2 rfl rfl rfl rfl)⟩
                  case measure => exact hrt
              · have hg := Lib.hid (fun w1 => hg0 2 (by omega) w1)
                have HP2 : Hid (PlaceR 3 a b v d) := Lib.hid (by have := HP.out; unfold PlaceR at *; omega)
                rcases hz4 with ⟨hv1, rfl, hr0⟩ | ⟨hv1, hv2⟩ | ⟨hv1, hv2⟩
                · have q1 := e0 hv1
                  have hvc := hz5 (by omega)
                  have hv := Lib.hid (fun w1 => hv0 w1 (v : Int) hvc)
                  have HS2 : Hid (SumR (T + v * 1000) a b v d ov) := Lib.hid (by
                    have hP := HP.out
                    unfold PlaceR at hP
                    obtain ⟨h, h1, h2, h3, h4⟩ := HS.out
                    refine ⟨?_, by omega, by omega, by omega, by omega⟩
                    rcases h with ⟨h, h5⟩ | ⟨h, h5⟩
                    · exact .inl ⟨h, by omega⟩
                    · exact .inr ⟨h, by omega⟩)
                  have HP3 := HP2
                  have hvm : v ≤ 1099511627776 := by omega
                  clear hz5 hz6 e0 e1 hv0 hg0 HP2 hvc hv1
                  go_wp2_with fail
                  refine (hg.out _).mono ?_
                  rintro e w2 ⟨rfl, n, rfl⟩
                  have hs1 := have_step hb HR.out n 2 (.int .i64 (v : Int))
                  have hc1 := (show (wr.drewN n).rowIs w.heap.size 90 4 (rw4 a b c d) from HR.out).cell (i := 2) (by omega)
                  have hc2 := (show (wr.drewN n).rowIs w.heap.size 90 4 (rw4 a b c d) from HR.out).frozen 2
                  go_wp2_with fail
                  refine (hv.out _).mono ?_
                  rintro e w3 ⟨rfl, rfl⟩
                  go_wp2_with fail
                  go_roundw
                  case rel => exact ⟨K, 3, T + v * 1000, a, b, v, d, r, _, hk2, HC2, hrs2, HS2, HP3, HN, rfl, rfl, by first | rfl | (congr 1; done), hs1.1, Lib.hid (row_to hs1.2 rfl rfl rfl rfl)⟩
                  case measure => exact hrt
                · have q1 := e1 hv1
                  have hvc := hz5 (by omega)
                  have hv := Lib.hid (fun w1 => hv0 w1 (v : Int) hvc)
                  have HS2 : Hid (SumR (T + v * 1000) a b v d ov) := Lib.hid (by
                    have hP := HP.out
                    unfold PlaceR at hP
                    obtain ⟨h, h1, h2, h3, h4⟩ := HS.out
                    refine ⟨?_, by omega, by omega, by omega, by omega⟩
                    rcases h with ⟨h, h5⟩ | ⟨h, h5⟩
                    · exact .inl ⟨h, by omega⟩
                    · exact .inr ⟨h, by omega⟩)
                  have HP3 := HP2
                  have hvm : v ≤ 1099511627776 := by omega
                  clear hz5 hz6 e0 e1 hv0 hg0 HP2 hvc hv1
                  go_wp2_with fail
                  refine (hg.out _).mono ?_
                  rintro e w2 ⟨rfl, n, rfl⟩
                  have hs1 := have_step hb HR.out n 2 (.int .i64 (v : Int))
                  have hc1 := (show (wr.drewN n).rowIs w.heap.size 90 4 (rw4 a b c d) from HR.out).cell (i := 2) (by omega)
                  have hc2 := (show (wr.drewN n).rowIs w.heap.size 90 4 (rw4 a b c d) from HR.out).frozen 2
                  go_wp2_with fail
                  refine (hv.out _).mono ?_
                  rintro e w3 ⟨rfl, rfl⟩
                  go_wp2_with fail
                  go_roundw
                  case rel => exact ⟨K, 3, T + v * 1000, a, b, v, d, r, _, hk2, HC2, hrs2, HS2, HP3, HN, rfl, rfl, by first | rfl | (congr 1; done), hs1.1, Lib.hid (row_to hs1.2 rfl rfl rfl rfl)⟩
                  case measure => exact hrt
                · have q1 := e1 hv1
                  obtain ⟨hm1, hm2⟩ := hz6 hv2
                  generalize valS f0.data.toList = nv at *
                  have hv := Lib.hid (fun w1 => hv0 w1 nv rfl)
                  have HS2 : Hid (SumR (T + v * 1000) a b 0 d true) := Lib.hid (by obtain ⟨h, h1, h2, h3, h4⟩ := HS.out; exact ⟨.inr ⟨rfl, by omega⟩, by omega, by omega, by omega, by omega⟩)
                  have HP3 : Hid (PlaceR 3 a b 0 d) := Lib.hid (by have := HP.out; unfold PlaceR at *; omega)
                  clear hz5 hz6 e0 e1 hv0 hg0 hv1 HP2
                  go_wp2_with fail
                  refine (hg.out _).mono ?_
                  rintro e w2 ⟨rfl, n, rfl⟩
                  have hs1 := have_step hb HR.out n 2 (.int .i64 0)
                  have hc1 := (show (wr.drewN n).rowIs w.heap.size 90 4 (rw4 a b c d) from HR.out).cell (i := 2) (by omega)
                  have hc2 := (show (wr.drewN n).rowIs w.heap.size 90 4 (rw4 a b c d) from HR.out).frozen 2
                  go_wp2_with fail
                  refine (hv.out _).mono ?_
                  rintro e w3 ⟨rfl, rfl⟩
                  go_wp2_with fail
                  go_roundw
                  case rel => exact ⟨K, 3, T + v * 1000, a, b, 0, d, r, _, hk2, HC2, hrs2, HS2, HP3, HN, rfl, rfl, by first | rfl | (congr 1; done), hs1.1, Lib.hid (row_to hs1.2 rfl rfl rfl rfl)⟩
                  case measure => exact hrt

end Go.Proofs.Ytglihjdbbpohlaa.W
