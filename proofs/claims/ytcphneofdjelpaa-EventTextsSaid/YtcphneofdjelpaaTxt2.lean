/- Contracts of the reference's texts of numbers. -/
import Derived.Test.YtcphneofdjelpaaTxt1
namespace Go.Proofs.Ytcphneofdjelpaa.W
open Go.RowKit Go.Proofs.Ytcphneofdjelpaa.Pl

/-- 'string([]byte{c})' -/
theorem run_one (w : World) (T : TypeId) (n : Int) (c : UInt8) (h : n = (c.toNat : Int)) :
    (convert 58 9 (.slice (some ⟨w.heap.size, 0, none⟩) 1 1)).run Try.prog (w.alloc (.cells #[.int .u8 n] T)) = .ok (.string (bs [c])) (w.alloc (.cells #[.int .u8 n] T)) := by
  subst h
  refine run_convert_bytes_back _ 58 9 5 _ _ [c] Try.underlying58 Try.underlying5 Try.underlying9 fun j hj => ?_
  obtain rfl : j = 0 := by simpa using hj
  rw [show (⟨w.heap.size, 0, none⟩ : Addr).add 0 = ⟨w.heap.size, 0, none⟩ from by simp [Addr.add], World.cell?_alloc_at _ _ _ _ rfl]
  rfl

set_option maxRecDepth 100000 in
set_option maxHeartbeats 400000 in
theorem kdigits (n : Nat) (w : World) (hn : n ≤ 18446744073709551615) :
    Calls Try.prog 39 #[.int .u64 n] w fun e w' => e = .returned (.string (bs (dec n))) ∧ Below w.heap.size w w' := by
  have hlen : (dec n).length ≤ 20 := dec_len_le 20 n (by omega) (by decide)
  go_enter Try.func39, Try.ntmps39
  go_wp2
  go_loopw [0, 3] (fun u t wr => ∃ (v : Nat) (r : List UInt8), v ≤ 18446744073709551615 ∧ r.length ≤ 20 ∧ Hid (dec n = dec v ++ r) ∧ u = .int .u64 v ∧ t = .string (bs r) ∧ Below w.heap.size w wr) (fun u _ _ => (intOf u).toNat)
  case atStart => exact ⟨n, [], hn, by simp, Lib.hid (by simp), rfl, rfl, Below.refl _ _⟩
  case round =>
    obtain ⟨v, r, hv, hr, hd, rfl, rfl, hb⟩ := hrel
    have hrs : (bs r).size ≤ 20 := by rw [bs_size]; exact hr
    by_cases hlt : v < 10
    · have hc1 := run_one wr 5 (48 + (v : Int)) (dgt v) (by rw [dgt_toNat]; omega)
      have hz : (bs [dgt v]).size = 1 := bs_size _
      go_wp2
      go_ret
      exact ⟨by rw [hd.out, dec_lt hlt, ← bs_append]; rfl, hb.alloc hb.size _⟩
    · have hc1 := run_one wr 5 (48 + (v : Int) % 10) (dgt v) (by rw [dgt_toNat]; omega)
      have hz : (bs [dgt v]).size = 1 := bs_size _
      have HR : Hid (dec n = dec (v / 10) ++ (dgt v :: r)) := Lib.hid (by rw [hd.out, dec_ge (by omega)]; simp)
      have hr2 : (dgt v :: r).length ≤ 20 := by have := HR.out ▸ hlen; rw [List.length_append] at this; omega
      go_wp2
      go_roundw
      case rel => exact ⟨v / 10, dgt v :: r, by omega, hr2, HR, rfl, by rw [bs_append]; rfl, hb.alloc hb.size _⟩
      case measure => simp [intOf]; omega

set_option maxRecDepth 100000 in
theorem kRefText (n : Int) (w : World) (h1 : -9223372036854775808 ≤ n) (h2 : n ≤ 9223372036854775807) :
    Calls Try.prog 30 #[.int .i64 n] w fun e w' => e = .returned (.string (bs (txt n))) ∧ Below w.heap.size w w' := by
  by_cases h : n < 0
  · obtain ⟨m, rfl⟩ : ∃ m : Nat, n = -(m : Int) := ⟨(-n).toNat, by omega⟩
    have HT := Lib.hid (txt_neg h)
    rw [Int.neg_neg, Int.toNat_natCast] at HT
    have hwr : IntKind.u64.wrap (0 - IntKind.u64.wrap (-(m : Int))) = (m : Int) := by rw [IntKind.wrap_u64, IntKind.wrap_u64]; omega
    have hwr2 : IntKind.u64.wrap (-IntKind.u64.wrap (-(m : Int))) = (m : Int) := by rw [IntKind.wrap_u64, IntKind.wrap_u64]; omega
    have hlen : (bs (dec m)).size ≤ 20 := by rw [bs_size]; exact dec_len_le 20 m (by omega) (by decide)
    have h0 : decide (-(m : Int) < 0) = true := decT (by omega)
    have h0' : decide (0 < (m : Int)) = true := decT (by omega)
    go_enter Try.func30, Try.ntmps30
    go_wp2_with (go_at_call 39; refine (kdigits m _ (by omega)).mono ?_; rintro e w' ⟨rfl, hb⟩)
    go_ret
    exact ⟨by rw [HT.out]; exact congrArg (fun s => Ending.returned (Go.Value.string s)) (bs_append [45] (dec m)), by assumption⟩
  · obtain ⟨m, rfl⟩ : ∃ m : Nat, n = (m : Int) := ⟨n.toNat, by omega⟩
    have HT := Lib.hid (txt_pos (n := m) (by omega))
    rw [Int.toNat_natCast] at HT
    go_enter Try.func30, Try.ntmps30
    go_wp2_with (go_at_call 39; refine (kdigits m _ (by omega)).mono ?_; rintro e w' ⟨rfl, hb⟩)
    go_ret
    exact ⟨by rw [HT.out]; rfl, by assumption⟩
end Go.Proofs.Ytcphneofdjelpaa.W
