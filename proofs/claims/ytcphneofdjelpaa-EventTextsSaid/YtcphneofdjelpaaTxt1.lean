/- Contracts of the texts of numbers. -/
import Derived.Test.YtcphneofdjelpaaEv0
namespace Go.Proofs.Ytcphneofdjelpaa.W
open Go.RowKit Go.Proofs.Ytcphneofdjelpaa.Pl

/-- bytes as cells -/
def cellsOf (l : List UInt8) : Array Go.Value := (l.map fun b => Go.Value.int .u8 (b.toNat : Int)).toArray
/-- the row of a number's text while it is written -/
def rowAt (k : Nat) (r : List UInt8) : Array Go.Value := cellsOf (List.replicate k 0 ++ r)
theorem rowAt_20 : rowAt 20 [] = #[Go.Value.int IntKind.u8 0, Go.Value.int IntKind.u8 0, Go.Value.int IntKind.u8 0, Go.Value.int IntKind.u8 0, Go.Value.int IntKind.u8 0, Go.Value.int IntKind.u8 0, Go.Value.int IntKind.u8 0, Go.Value.int IntKind.u8 0, Go.Value.int IntKind.u8 0, Go.Value.int IntKind.u8 0, Go.Value.int IntKind.u8 0, Go.Value.int IntKind.u8 0, Go.Value.int IntKind.u8 0, Go.Value.int IntKind.u8 0, Go.Value.int IntKind.u8 0, Go.Value.int IntKind.u8 0, Go.Value.int IntKind.u8 0, Go.Value.int IntKind.u8 0, Go.Value.int IntKind.u8 0, Go.Value.int IntKind.u8 0] := rfl
theorem rowAt_size (k : Nat) (r : List UInt8) : (rowAt k r).size = k + r.length := by unfold rowAt cellsOf; simp
theorem rowAt_get (k : Nat) (r : List UInt8) : (rowAt (k + 1) r)[k]? = some (.int .u8 0) := by
  unfold rowAt cellsOf
  rw [List.replicate_succ']
  simp
theorem rowAt_set (k : Nat) (r : List UInt8) (c : UInt8) : (rowAt (k + 1) r).setIfInBounds k (.int .u8 (c.toNat : Int)) = rowAt k (c :: r) := by
  unfold rowAt cellsOf
  rw [List.replicate_succ']
  simp

/-- 'b[k:]' of the array -/
theorem run_tail (B k m : Nat) (h : k + m = 20) (hm : 0 < m) (W : World) :
    (Instr.sliceAt 69 (.pointer (some ⟨B, 0, none⟩)) (some (.int .i64 (k : Int))) none none).run Try.prog W = .ok (.slice (some ⟨B, k, none⟩) m m) W := by
  have hu : Try.prog.underlying 69 = some (.array 20 5) := Try.underlying69
  have hal : Try.prog.arrayLen 69 = 20 := by simp [Program.arrayLen, hu]
  have hel : Try.prog.elem 69 = 5 := by simp [Program.elem, hu]
  rw [run_sliceAt_array_l W 69 ⟨B, 0, none⟩ (by rw [hal, hel, hu]) .i64 (k : Int) (by omega) (by rw [hal]; omega)]
  go_simp
  omega

/-- 'string(b)' of the row's tail -/
theorem run_back (w : World) (T k m : Nat) (r : List UInt8) (hm : r.length = m) :
    (convert 58 9 (.slice (some ⟨w.heap.size, k, none⟩) m m)).run Try.prog (w.alloc (.cells (rowAt k r) T)) = .ok (.string (bs r)) (w.alloc (.cells (rowAt k r) T)) := by
  subst hm
  refine run_convert_bytes_back _ 58 9 5 _ _ r Try.underlying58 Try.underlying5 Try.underlying9 fun j hj => ?_
  rw [show (⟨w.heap.size, k, none⟩ : Addr).add j = ⟨w.heap.size, k + j, none⟩ from by simp [Addr.add], World.cell?_alloc_at _ _ _ _ rfl]
  unfold rowAt cellsOf
  simp [hj]

set_option maxRecDepth 100000 in
set_option maxHeartbeats 400000 in
theorem kText_pos (n : Nat) (w : World) (hn2 : n ≤ 9223372036854775808) (hn3 : n ≤ 9223372036854775807) :
    Calls Try.prog 25 #[.int .i64 n] w fun e w' => e = .returned (.string (bs (dec n))) ∧ Below w.heap.size w w' := by
  have h0 : decide ((n : Int) < 0) = false := decF (by omega)
  go_enter Try.func25, Try.ntmps25
  go_wp2
  rw [← rowAt_20]
  go_loopw [4, 6] (fun i u wr => ∃ (k v : Nat) (r : List UInt8), 2 ≤ k ∧ k ≤ 20 ∧ v < 10 ^ (k - 1) ∧ Hid (dec n = dec v ++ r) ∧ Hid (k + r.length = 20) ∧ i = .int .i64 k ∧ u = .int .u64 v ∧ wr = w.alloc (.cells (rowAt k r) 69)) (fun _ u _ => (intOf u).toNat)
  case atStart => exact ⟨20, n, [], by omega, by omega, by omega, Lib.hid (by simp), Lib.hid rfl, rfl, rfl, rfl⟩
  case round =>
    obtain ⟨k, v, r, hk1, hk2, hv, hd, hl, rfl, rfl, rfl⟩ := hrel
    obtain ⟨k, rfl⟩ : ∃ j, k = j + 1 := ⟨k - 1, by omega⟩
    rw [Nat.add_sub_cancel] at hv
    have hv2 : v < 10000000000000000000 := Nat.lt_of_lt_of_le hv (Nat.pow_le_pow_right (by omega) (show k ≤ 19 by omega))
    have HV := Lib.hid hv
    clear hv
    have hcell : (rowAt (k + 1) r)[k]? = some (.int .u8 0) := rowAt_get k r
    have hset : (rowAt (k + 1) r).setIfInBounds k (.int .u8 (48 + (v : Int) % 10)) = rowAt k (dgt v :: r) := by
      rw [← rowAt_set, dgt_toNat]; rfl
    by_cases hb : v < 10
    · have hz : ((v : Int) / 10 == 0) = true := beqT (by omega)
      have HD : Hid (dec n = dgt v :: r) := Lib.hid (by rw [hd.out, dec_lt hb]; rfl)
      have hlen : k + (dgt v :: r).length = 20 := by have := hl.out; rw [List.length_cons]; omega
      have hpos : 0 < (dgt v :: r).length := by rw [List.length_cons]; omega
      generalize dgt v :: r = rr at *
      obtain ⟨m, hm⟩ : ∃ m, rr.length = m := ⟨_, rfl⟩
      rw [hm] at hlen hpos
      have hsl := run_tail w.heap.size k m hlen hpos
      have hcv := run_back w 69 k m rr hm
      clear hm hlen
      go_wp2
      go_ret
      exact ⟨by rw [HD.out]; rfl, (Below.refl _ _).alloc (Nat.le_refl _) _⟩
    · have hz : ((v : Int) / 10 == 0) = false := beqF (by omega)
      have hk3 : 2 ≤ k := by
        refine Decidable.byContradiction fun h => hb ?_
        have h1 := HV.out
        have h2 : 10 ^ k ≤ 10 ^ 1 := Nat.pow_le_pow_right (by omega) (by omega)
        omega
      have HR : Hid (dec n = dec (v / 10) ++ (dgt v :: r)) := Lib.hid (by rw [hd.out, dec_ge (by omega)]; simp)
      have HL : Hid (k + (dgt v :: r).length = 20) := Lib.hid (by have := hl.out; rw [List.length_cons]; omega)
      have HP : Hid (v / 10 < 10 ^ (k - 1)) := Lib.hid (by
        refine Nat.div_lt_of_lt_mul ?_
        rw [Nat.mul_comm, ← Nat.pow_succ, show (k - 1).succ = k by omega]
        exact HV.out)
      generalize dgt v :: r = rr at *
      go_wp2
      go_roundw
      case rel => exact ⟨k, v / 10, rr, hk3, by omega, HP.out, HR, HL, rfl, rfl, rfl⟩
      case measure => simp [intOf]; omega

set_option maxRecDepth 100000 in
set_option maxHeartbeats 400000 in
theorem kText_neg (n : Nat) (w : World) (hn2 : n ≤ 9223372036854775808) (hn3 : 1 ≤ n) :
    Calls Try.prog 25 #[.int .i64 (-(n : Int))] w fun e w' => e = .returned (.string (bs (45 :: dec n))) ∧ Below w.heap.size w w' := by
  have h0 : decide (-(n : Int) < 0) = true := decT (by omega)
  have h0' : decide (0 < (n : Int)) = true := decT (by omega)
  have hwr : IntKind.u64.wrap (-IntKind.u64.wrap (-(n : Int))) = (n : Int) := by rw [IntKind.wrap_u64, IntKind.wrap_u64]; omega
  go_enter Try.func25, Try.ntmps25
  go_wp2
  rw [← rowAt_20]
  go_loopw [4, 6] (fun i u wr => ∃ (k v : Nat) (r : List UInt8), 2 ≤ k ∧ k ≤ 20 ∧ v < 10 ^ (k - 1) ∧ Hid (dec n = dec v ++ r) ∧ Hid (k + r.length = 20) ∧ i = .int .i64 k ∧ u = .int .u64 v ∧ wr = w.alloc (.cells (rowAt k r) 69)) (fun _ u _ => (intOf u).toNat)
  case atStart => exact ⟨20, n, [], by omega, by omega, by omega, Lib.hid (by simp), Lib.hid rfl, rfl, rfl, rfl⟩
  case round =>
    obtain ⟨k, v, r, hk1, hk2, hv, hd, hl, rfl, rfl, rfl⟩ := hrel
    obtain ⟨k, rfl⟩ : ∃ j, k = j + 1 := ⟨k - 1, by omega⟩
    rw [Nat.add_sub_cancel] at hv
    have hv2 : v < 10000000000000000000 := Nat.lt_of_lt_of_le hv (Nat.pow_le_pow_right (by omega) (show k ≤ 19 by omega))
    have HV := Lib.hid hv
    clear hv
    have hcell : (rowAt (k + 1) r)[k]? = some (.int .u8 0) := rowAt_get k r
    have hset : (rowAt (k + 1) r).setIfInBounds k (.int .u8 (48 + (v : Int) % 10)) = rowAt k (dgt v :: r) := by
      rw [← rowAt_set, dgt_toNat]; rfl
    by_cases hb : v < 10
    · have hz : ((v : Int) / 10 == 0) = true := beqT (by omega)
      have HD : Hid (dec n = dgt v :: r) := Lib.hid (by rw [hd.out, dec_lt hb]; rfl)
      have hlen : k + (dgt v :: r).length = 20 := by have := hl.out; rw [List.length_cons]; omega
      have hpos : 0 < (dgt v :: r).length := by rw [List.length_cons]; omega
      generalize dgt v :: r = rr at *
      obtain ⟨k, rfl⟩ : ∃ j, k = j + 1 := ⟨k - 1, by omega⟩
      have hcell2 : (rowAt (k + 1) rr)[k]? = some (.int .u8 0) := rowAt_get k rr
      have hset2 : (rowAt (k + 1) rr).setIfInBounds k (.int .u8 45) = rowAt k (45 :: rr) := rowAt_set k rr 45
      have HD2 : Hid (45 :: dec n = 45 :: rr) := Lib.hid (by rw [HD.out])
      have hlen2 : k + (45 :: rr).length = 20 := by rw [List.length_cons]; omega
      have hpos2 : 0 < (45 :: rr).length := by rw [List.length_cons]; omega
      generalize 45 :: rr = rs at *
      obtain ⟨m, hm⟩ : ∃ m, rs.length = m := ⟨_, rfl⟩
      rw [hm] at hlen2 hpos2
      have hsl := run_tail w.heap.size k m hlen2 hpos2
      have hcv := run_back w 69 k m rs hm
      clear hm hlen2 hlen hpos
      go_wp2
      go_ret
      exact ⟨by rw [HD2.out]; rfl, (Below.refl _ _).alloc (Nat.le_refl _) _⟩
    · have hz : ((v : Int) / 10 == 0) = false := beqF (by omega)
      have hk3 : 2 ≤ k := by
        refine Decidable.byContradiction fun h => hb ?_
        have h1 := HV.out
        have h2 : 10 ^ k ≤ 10 ^ 1 := Nat.pow_le_pow_right (by omega) (by omega)
        omega
      have HR : Hid (dec n = dec (v / 10) ++ (dgt v :: r)) := Lib.hid (by rw [hd.out, dec_ge (by omega)]; simp)
      have HL : Hid (k + (dgt v :: r).length = 20) := Lib.hid (by have := hl.out; rw [List.length_cons]; omega)
      have HP : Hid (v / 10 < 10 ^ (k - 1)) := Lib.hid (by
        refine Nat.div_lt_of_lt_mul ?_
        rw [Nat.mul_comm, ← Nat.pow_succ, show (k - 1).succ = k by omega]
        exact HV.out)
      generalize dgt v :: r = rr at *
      go_wp2
      go_roundw
      case rel => exact ⟨k, v / 10, rr, hk3, by omega, HP.out, HR, HL, rfl, rfl, rfl⟩
      case measure => simp [intOf]; omega

theorem kText (n : Int) (w : World) (h1 : -9223372036854775808 ≤ n) (h2 : n ≤ 9223372036854775807) :
    Calls Try.prog 25 #[.int .i64 n] w fun e w' => e = .returned (.string (bs (txt n))) ∧ Below w.heap.size w w' := by
  by_cases h : n < 0
  · obtain ⟨m, rfl⟩ : ∃ m : Nat, n = -(m : Int) := ⟨(-n).toNat, by omega⟩
    rw [txt_neg h, Int.neg_neg, Int.toNat_natCast]
    exact kText_neg m w (by omega) (by omega)
  · obtain ⟨m, rfl⟩ : ∃ m : Nat, n = (m : Int) := ⟨n.toNat, by omega⟩
    rw [txt_pos (by omega), Int.toNat_natCast]
    exact kText_pos m w (by omega) (by omega)
end Go.Proofs.Ytcphneofdjelpaa.W
