/- Contracts of the texts of thousandths. -/
import Derived.Test.YtglihjdbbpohlaaTxt2
import Derived.Test.YtglihjdbbpohlaaPlM
namespace Go.Proofs.Ytglihjdbbpohlaa.W
open Go.RowKit Go.Proofs.Ytglihjdbbpohlaa.Pl

/-- 'string([]byte{a, b, c})' -/
theorem run_three (w : World) (T : TypeId) (x y z : Int) (a b c : UInt8) (ha : x = (a.toNat : Int)) (hb : y = (b.toNat : Int)) (hc : z = (c.toNat : Int)) :
    (convert 85 9 (.slice (some ⟨w.heap.size, 0, none⟩) 3 3)).run Try.prog (w.alloc (.cells #[.int .u8 x, .int .u8 y, .int .u8 z] T)) = .ok (.string (bs [a, b, c])) (w.alloc (.cells #[.int .u8 x, .int .u8 y, .int .u8 z] T)) := by
  subst ha hb hc
  refine run_convert_bytes_back _ 85 9 5 _ _ [a, b, c] Try.underlying85 Try.underlying5 Try.underlying9 fun j hj => ?_
  rw [show (⟨w.heap.size, 0, none⟩ : Addr).add j = ⟨w.heap.size, j, none⟩ from by simp [Addr.add]; omega, World.cell?_alloc_at _ _ _ _ rfl]
  have hj' : j < 3 := hj
  rcases (show j = 0 ∨ j = 1 ∨ j = 2 by omega) with rfl | rfl | rfl <;> rfl

set_option maxRecDepth 100000 in
set_option maxHeartbeats 1000000 in
theorem kRefMilliText_nat (n : Nat) (w : World) (hn : n ≤ 9223372036854775807) :
    Calls Try.prog 42 #[.int .i64 n] w fun e w' => e = .returned (.string (bs (mtxt n))) ∧ Below w.heap.size w w' := by
  have HT := Lib.hid (mtxt_nat n)
  have hlen : (bs (txt ((n : Int) / 1000))).size ≤ 20 := by rw [bs_size]; exact txt_len (by omega) (by omega)
  have hD : txt ((n : Int) / 1000) = dec (n / 1000) := by rw [txt_pos (by omega)]; rfl
  rcases frac_cases (n % 1000) (by omega) with ⟨hp, hf⟩ | ⟨hp, h2, h3, h4, hf⟩ | ⟨h2, hp, hf⟩ | ⟨hp, hf⟩
  · have z0 : ((n : Int) % 1000 == 0) = true := beqT (by omega)
    have HF : Hid (mtxt n = txt ((n : Int) / 1000)) := Lib.hid (by rw [HT.out, hf, hD, List.append_nil])
    clear hf hD hp
    go_enter Try.func42, Try.ntmps42
    go_wp2_with (go_at_call 40; ((with_reducible refine (kRefText _ _ (by omega) (by omega)).mono ?_); rintro e w' ⟨rfl, hb⟩))
    go_ret
    exact ⟨by rw [HF.out]; rfl, hb⟩
  · have z0 : ((n : Int) % 1000 == 0) = false := beqF (by omega)
    obtain ⟨a, ha⟩ : ∃ a, a = dgt (n % 1000 / 100) := ⟨_, rfl⟩
    obtain ⟨b, hb⟩ : ∃ b, b = dgt (n % 1000 / 10) := ⟨_, rfl⟩
    obtain ⟨c, hc⟩ : ∃ c, c = dgt (n % 1000) := ⟨_, rfl⟩
    have na : 48 + (n : Int) % 1000 / 100 = (a.toNat : Int) := by rw [ha, dgt_toNat]; omega
    have nb : 48 + (n : Int) % 1000 / 10 % 10 = (b.toNat : Int) := by rw [hb, dgt_toNat]; omega
    have nc : 48 + (n : Int) % 10 = (c.toNat : Int) := by rw [hc, dgt_toNat]; omega
    have hcv := fun w1 => run_three w1 5 _ _ _ a b c na nb nc
    have HF : Hid (bs (mtxt n) = bs (txt ((n : Int) / 1000)) ++ ⟨#[46]⟩ ++ bs [a]) := Lib.hid (by rw [HT.out, hf, ← hD, ← ha, show (⟨#[46]⟩ : ByteArray) = bs [46] from rfl, bs_append, bs_append, List.append_assoc]; rfl)
    have hlen2 : (bs (txt ((n : Int) / 1000)) ++ (⟨#[46]⟩ : ByteArray)).size ≤ 21 := by rw [ByteArray.size_append]; have : (⟨#[46]⟩ : ByteArray).size = 1 := rfl; omega
    have t2 : ((c.toNat : Int) == 48) = true := beqT (by rw [hc, dgt_toNat]; omega)
    have t1 : ((b.toNat : Int) == 48) = true := beqT (by rw [hb, dgt_toNat]; omega)
    have t0 : ((a.toNat : Int) == 48) = false := beqF (by rw [ha, dgt_toNat]; omega)
    have g3 : (bs [a, b, c]).size = 3 := bs_size _
    have g2 : (bs [a, b]).size = 2 := bs_size _
    have g1 : (bs [a]).size = 1 := bs_size _
    have x2 : ∀ h : 2 < (bs [a, b, c]).size, (bs [a, b, c])[2] = c := fun _ => rfl
    have x1 : ∀ h : 1 < (bs [a, b]).size, (bs [a, b])[1] = b := fun _ => rfl
    have x0 : ∀ h : 0 < (bs [a]).size, (bs [a])[0] = a := fun _ => rfl
    have y2 : (bs [a, b, c]).extract 0 2 = bs [a, b] := bs_take _ _
    have y1 : (bs [a, b]).extract 0 1 = bs [a] := bs_take _ _
    clear na nb nc ha hb hc hf hp h2 h3 h4 hD
    go_enter Try.func42, Try.ntmps42
    go_wp2_with (go_at_call 40; ((with_reducible refine (kRefText _ _ (by omega) (by omega)).mono ?_); rintro e w' ⟨rfl, hbw⟩))
    refine wp_loop_rounds 4 ?_
    rw [rounds_succ]
    go_wp2
    rw [rounds_succ]
    go_wp2
    rw [rounds_succ]
    go_wp2
    go_ret
    exact ⟨by rw [HF.out]; rfl, hbw.alloc hbw.size _⟩
  · have z0 : ((n : Int) % 1000 == 0) = false := beqF (by omega)
    obtain ⟨a, ha⟩ : ∃ a, a = dgt (n % 1000 / 100) := ⟨_, rfl⟩
    obtain ⟨b, hb⟩ : ∃ b, b = dgt (n % 1000 / 10) := ⟨_, rfl⟩
    obtain ⟨c, hc⟩ : ∃ c, c = dgt (n % 1000) := ⟨_, rfl⟩
    have na : 48 + (n : Int) % 1000 / 100 = (a.toNat : Int) := by rw [ha, dgt_toNat]; omega
    have nb : 48 + (n : Int) % 1000 / 10 % 10 = (b.toNat : Int) := by rw [hb, dgt_toNat]; omega
    have nc : 48 + (n : Int) % 10 = (c.toNat : Int) := by rw [hc, dgt_toNat]; omega
    have hcv := fun w1 => run_three w1 5 _ _ _ a b c na nb nc
    have HF : Hid (bs (mtxt n) = bs (txt ((n : Int) / 1000)) ++ ⟨#[46]⟩ ++ bs [a, b]) := Lib.hid (by rw [HT.out, hf, ← hD, ← ha, ← hb, show (⟨#[46]⟩ : ByteArray) = bs [46] from rfl, bs_append, bs_append, List.append_assoc]; rfl)
    have hlen2 : (bs (txt ((n : Int) / 1000)) ++ (⟨#[46]⟩ : ByteArray)).size ≤ 21 := by rw [ByteArray.size_append]; have : (⟨#[46]⟩ : ByteArray).size = 1 := rfl; omega
    have t2 : ((c.toNat : Int) == 48) = true := beqT (by rw [hc, dgt_toNat]; omega)
    have t1 : ((b.toNat : Int) == 48) = false := beqF (by rw [hb, dgt_toNat]; omega)
    have g3 : (bs [a, b, c]).size = 3 := bs_size _
    have g2 : (bs [a, b]).size = 2 := bs_size _
    have g1 : (bs [a]).size = 1 := bs_size _
    have x2 : ∀ h : 2 < (bs [a, b, c]).size, (bs [a, b, c])[2] = c := fun _ => rfl
    have x1 : ∀ h : 1 < (bs [a, b]).size, (bs [a, b])[1] = b := fun _ => rfl
    have x0 : ∀ h : 0 < (bs [a]).size, (bs [a])[0] = a := fun _ => rfl
    have y2 : (bs [a, b, c]).extract 0 2 = bs [a, b] := bs_take _ _
    have y1 : (bs [a, b]).extract 0 1 = bs [a] := bs_take _ _
    clear na nb nc ha hb hc hf h2 hp hD
    go_enter Try.func42, Try.ntmps42
    go_wp2_with (go_at_call 40; ((with_reducible refine (kRefText _ _ (by omega) (by omega)).mono ?_); rintro e w' ⟨rfl, hbw⟩))
    refine wp_loop_rounds 4 ?_
    rw [rounds_succ]
    go_wp2
    rw [rounds_succ]
    go_wp2
    go_ret
    exact ⟨by rw [HF.out]; rfl, hbw.alloc hbw.size _⟩
  · have z0 : ((n : Int) % 1000 == 0) = false := beqF (by omega)
    obtain ⟨a, ha⟩ : ∃ a, a = dgt (n % 1000 / 100) := ⟨_, rfl⟩
    obtain ⟨b, hb⟩ : ∃ b, b = dgt (n % 1000 / 10) := ⟨_, rfl⟩
    obtain ⟨c, hc⟩ : ∃ c, c = dgt (n % 1000) := ⟨_, rfl⟩
    have na : 48 + (n : Int) % 1000 / 100 = (a.toNat : Int) := by rw [ha, dgt_toNat]; omega
    have nb : 48 + (n : Int) % 1000 / 10 % 10 = (b.toNat : Int) := by rw [hb, dgt_toNat]; omega
    have nc : 48 + (n : Int) % 10 = (c.toNat : Int) := by rw [hc, dgt_toNat]; omega
    have hcv := fun w1 => run_three w1 5 _ _ _ a b c na nb nc
    have HF : Hid (bs (mtxt n) = bs (txt ((n : Int) / 1000)) ++ ⟨#[46]⟩ ++ bs [a, b, c]) := Lib.hid (by rw [HT.out, hf, ← hD, ← ha, ← hb, ← hc, show (⟨#[46]⟩ : ByteArray) = bs [46] from rfl, bs_append, bs_append, List.append_assoc]; rfl)
    have hlen2 : (bs (txt ((n : Int) / 1000)) ++ (⟨#[46]⟩ : ByteArray)).size ≤ 21 := by rw [ByteArray.size_append]; have : (⟨#[46]⟩ : ByteArray).size = 1 := rfl; omega
    have t2 : ((c.toNat : Int) == 48) = false := beqF (by rw [hc, dgt_toNat]; omega)
    have g3 : (bs [a, b, c]).size = 3 := bs_size _
    have g2 : (bs [a, b]).size = 2 := bs_size _
    have g1 : (bs [a]).size = 1 := bs_size _
    have x2 : ∀ h : 2 < (bs [a, b, c]).size, (bs [a, b, c])[2] = c := fun _ => rfl
    have x1 : ∀ h : 1 < (bs [a, b]).size, (bs [a, b])[1] = b := fun _ => rfl
    have x0 : ∀ h : 0 < (bs [a]).size, (bs [a])[0] = a := fun _ => rfl
    have y2 : (bs [a, b, c]).extract 0 2 = bs [a, b] := bs_take _ _
    have y1 : (bs [a, b]).extract 0 1 = bs [a] := bs_take _ _
    clear na nb nc ha hb hc hf hp hD
    go_enter Try.func42, Try.ntmps42
    go_wp2_with (go_at_call 40; ((with_reducible refine (kRefText _ _ (by omega) (by omega)).mono ?_); rintro e w' ⟨rfl, hbw⟩))
    refine wp_loop_rounds 4 ?_
    rw [rounds_succ]
    go_wp2
    go_ret
    exact ⟨by rw [HF.out]; rfl, hbw.alloc hbw.size _⟩
end Go.Proofs.Ytglihjdbbpohlaa.W
