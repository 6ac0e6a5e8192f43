/- Contract of the program's text of thousandths. -/
import Derived.Test.YtglihjdbbpohlaaMil1
namespace Go.Proofs.Ytglihjdbbpohlaa.W
open Go.RowKit Go.Proofs.Ytglihjdbbpohlaa.Pl

theorem run_head4 (B e : Nat) (he : e ≤ 4) (c : Int) (hc : c = (e : Int)) (W : World) :
    (Instr.sliceAt 87 (.pointer (some ⟨B, 0, none⟩)) none (some (.int .i64 c)) none).run Try.prog W = .ok (.slice (some ⟨B, 0, none⟩) e 4) W := by
  subst hc
  have hu : Try.prog.underlying 87 = some (.array 4 5) := Try.underlying87
  have hal : Try.prog.arrayLen 87 = 4 := by simp [Program.arrayLen, hu]
  have hel : Try.prog.elem 87 = 5 := by simp [Program.elem, hu]
  rw [run_sliceAt_array_h W 87 ⟨B, 0, none⟩ (by rw [hal, hel, hu]) .i64 (e : Int) (by omega) (by rw [hal]; omega)]
  go_simp

theorem run_back4 (w : World) (T : TypeId) (e : Nat) (x y z : Int) (a b c : UInt8) (l : List UInt8) (ha : x = (a.toNat : Int)) (hb : y = (b.toNat : Int)) (hc : z = (c.toNat : Int)) (hl : l = [46, a, b, c].take e) (he : l.length = e) :
    (convert 85 9 (.slice (some ⟨w.heap.size, 0, none⟩) e 4)).run Try.prog (w.alloc (.cells #[.int .u8 46, .int .u8 x, .int .u8 y, .int .u8 z] T)) = .ok (.string (bs l)) (w.alloc (.cells #[.int .u8 46, .int .u8 x, .int .u8 y, .int .u8 z] T)) := by
  subst ha hb hc
  obtain rfl := he
  refine run_convert_bytes_back _ 85 9 5 _ _ l Try.underlying85 Try.underlying5 Try.underlying9 fun j hj => ?_
  rw [show (⟨w.heap.size, 0, none⟩ : Addr).add j = ⟨w.heap.size, j, none⟩ from by simp [Addr.add]; omega, World.cell?_alloc_at _ _ _ _ rfl]
  have h4 : l.length ≤ 4 := by rw [hl, List.length_take]; exact Nat.min_le_right _ _
  have hg : some l[j] = [46, a, b, c][j]? := by
    rw [← List.getElem?_eq_getElem hj]
    have : l[j]? = ([46, a, b, c].take l.length)[j]? := by rw [← hl]
    rw [this, List.getElem?_take]; simp [hj]
  have hg' : ∀ v, [46, a, b, c][j]? = some v → some (Go.Value.int .u8 (l[j].toNat : Int)) = some (Go.Value.int .u8 (v.toNat : Int)) := fun v hv => by
    rw [hv] at hg; injection hg with hg; rw [hg]
  rcases (show j = 0 ∨ j = 1 ∨ j = 2 ∨ j = 3 by omega) with rfl | rfl | rfl | rfl
  · exact (hg' 46 rfl).symm
  · exact (hg' a rfl).symm
  · exact (hg' b rfl).symm
  · exact (hg' c rfl).symm

set_option maxRecDepth 100000 in
set_option maxHeartbeats 1000000 in
theorem kMilliText_nat (n : Nat) (w : World) (hn : n ≤ 9223372036854775807) :
    Calls Try.prog 41 #[.int .i64 n] w fun e w' => e = .returned (.string (bs (mtxt n))) ∧ Below w.heap.size w w' := by
  have HT := Lib.hid (mtxt_nat n)
  have hlen : (bs (txt ((n : Int) / 1000))).size ≤ 20 := by rw [bs_size]; exact txt_len (by omega) (by omega)
  have hD : txt ((n : Int) / 1000) = dec (n / 1000) := by rw [txt_pos (by omega)]; rfl
  rcases frac_cases (n % 1000) (by omega) with ⟨hp, hf⟩ | ⟨hp, h2, h3, h4, hf⟩ | ⟨h2, hp, hf⟩ | ⟨hp, hf⟩
  · have z0 : ((n : Int) % 1000 == 0) = true := beqT (by omega)
    have HF : Hid (mtxt n = txt ((n : Int) / 1000)) := Lib.hid (by rw [HT.out, hf, hD, List.append_nil])
    clear hf hD hp
    go_enter Try.func41, Try.ntmps41
    go_wp2_with (go_at_call 39; ((with_reducible refine (kText _ _ (by omega) (by omega)).mono ?_); rintro e w' ⟨rfl, hb⟩))
    go_ret
    exact ⟨by rw [HF.out]; rfl, hb⟩
  · have z0 : ((n : Int) % 1000 == 0) = false := beqF (by omega)
    have na : 48 + (n : Int) % 1000 / 10 / 10 % 10 = ((dgt (n % 1000 / 100)).toNat : Int) := by rw [dgt_toNat]; omega
    have nb : 48 + (n : Int) % 1000 / 10 % 10 = ((dgt (n % 1000 / 10)).toNat : Int) := by rw [dgt_toNat]; omega
    have nc : 48 + (n : Int) % 10 = ((dgt (n % 1000)).toNat : Int) := by rw [dgt_toNat]; omega
    have HF : Hid (bs (mtxt n) = bs (txt ((n : Int) / 1000)) ++ bs (frac (n % 1000))) := Lib.hid (by rw [HT.out, ← hD, bs_append])
    obtain ⟨l, hl⟩ : ∃ l, l = frac (n % 1000) := ⟨_, rfl⟩
    have hcv := fun w1 => run_back4 w1 87 2 _ _ _ _ _ _ l na nb nc (by rw [hl, hf]; rfl) (by rw [hl, hf]; rfl)
    have hsl := fun B => run_head4 B 2 (by omega) 2 rfl
    have hz : (bs l).size ≤ 4 := by rw [bs_size, hl, hf]; simp
    rw [← hl] at HF
    have t2 : (48 + (n : Int) % 10 == 48) = true := beqT (by omega)
    have t1 : (48 + (n : Int) % 1000 / 10 % 10 == 48) = true := beqT (by omega)
    have t0 : (48 + (n : Int) % 1000 / 10 / 10 % 10 == 48) = false := beqF (by omega)
    clear na nb nc hf hl hp h2 h3 h4 hD
    go_enter Try.func41, Try.ntmps41
    go_wp2_with (go_at_call 39; ((with_reducible refine (kText _ _ (by omega) (by omega)).mono ?_); rintro e w' ⟨rfl, hb⟩))
    refine wp_loop_rounds 4 ?_
    rw [rounds_succ]
    go_wp2
    rw [rounds_succ]
    go_wp2
    rw [rounds_succ]
    go_wp2
    rw [rounds_succ]
    go_wp2
    refine wp_loop_rounds 4 ?_
    rw [rounds_succ]
    go_wp2
    rw [rounds_succ]
    go_wp2
    rw [rounds_succ]
    go_wp2
    go_ret
    exact ⟨by rw [HF.out]; rfl, hb.alloc hb.size _⟩
  · have z0 : ((n : Int) % 1000 == 0) = false := beqF (by omega)
    have na : 48 + (n : Int) % 1000 / 10 / 10 % 10 = ((dgt (n % 1000 / 100)).toNat : Int) := by rw [dgt_toNat]; omega
    have nb : 48 + (n : Int) % 1000 / 10 % 10 = ((dgt (n % 1000 / 10)).toNat : Int) := by rw [dgt_toNat]; omega
    have nc : 48 + (n : Int) % 10 = ((dgt (n % 1000)).toNat : Int) := by rw [dgt_toNat]; omega
    have HF : Hid (bs (mtxt n) = bs (txt ((n : Int) / 1000)) ++ bs (frac (n % 1000))) := Lib.hid (by rw [HT.out, ← hD, bs_append])
    obtain ⟨l, hl⟩ : ∃ l, l = frac (n % 1000) := ⟨_, rfl⟩
    have hcv := fun w1 => run_back4 w1 87 3 _ _ _ _ _ _ l na nb nc (by rw [hl, hf]; rfl) (by rw [hl, hf]; rfl)
    have hsl := fun B => run_head4 B 3 (by omega) 3 rfl
    have hz : (bs l).size ≤ 4 := by rw [bs_size, hl, hf]; simp
    rw [← hl] at HF
    have t2 : (48 + (n : Int) % 10 == 48) = true := beqT (by omega)
    have t1 : (48 + (n : Int) % 1000 / 10 % 10 == 48) = false := beqF (by omega)
    clear na nb nc hf hl h2 hp hD
    go_enter Try.func41, Try.ntmps41
    go_wp2_with (go_at_call 39; ((with_reducible refine (kText _ _ (by omega) (by omega)).mono ?_); rintro e w' ⟨rfl, hb⟩))
    refine wp_loop_rounds 4 ?_
    rw [rounds_succ]
    go_wp2
    rw [rounds_succ]
    go_wp2
    rw [rounds_succ]
    go_wp2
    rw [rounds_succ]
    go_wp2
    refine wp_loop_rounds 4 ?_
    rw [rounds_succ]
    go_wp2
    rw [rounds_succ]
    go_wp2
    go_ret
    exact ⟨by rw [HF.out]; rfl, hb.alloc hb.size _⟩
  · have z0 : ((n : Int) % 1000 == 0) = false := beqF (by omega)
    have na : 48 + (n : Int) % 1000 / 10 / 10 % 10 = ((dgt (n % 1000 / 100)).toNat : Int) := by rw [dgt_toNat]; omega
    have nb : 48 + (n : Int) % 1000 / 10 % 10 = ((dgt (n % 1000 / 10)).toNat : Int) := by rw [dgt_toNat]; omega
    have nc : 48 + (n : Int) % 10 = ((dgt (n % 1000)).toNat : Int) := by rw [dgt_toNat]; omega
    have HF : Hid (bs (mtxt n) = bs (txt ((n : Int) / 1000)) ++ bs (frac (n % 1000))) := Lib.hid (by rw [HT.out, ← hD, bs_append])
    obtain ⟨l, hl⟩ : ∃ l, l = frac (n % 1000) := ⟨_, rfl⟩
    have hcv := fun w1 => run_back4 w1 87 4 _ _ _ _ _ _ l na nb nc (by rw [hl, hf]; rfl) (by rw [hl, hf]; rfl)
    have hsl := fun B => run_head4 B 4 (by omega) 4 rfl
    have hz : (bs l).size ≤ 4 := by rw [bs_size, hl, hf]; simp
    rw [← hl] at HF
    have t2 : (48 + (n : Int) % 10 == 48) = false := beqF (by omega)
    clear na nb nc hf hl hp hD
    go_enter Try.func41, Try.ntmps41
    go_wp2_with (go_at_call 39; ((with_reducible refine (kText _ _ (by omega) (by omega)).mono ?_); rintro e w' ⟨rfl, hb⟩))
    refine wp_loop_rounds 4 ?_
    rw [rounds_succ]
    go_wp2
    rw [rounds_succ]
    go_wp2
    rw [rounds_succ]
    go_wp2
    rw [rounds_succ]
    go_wp2
    refine wp_loop_rounds 4 ?_
    rw [rounds_succ]
    go_wp2
    go_ret
    exact ⟨by rw [HF.out]; rfl, hb.alloc hb.size _⟩

theorem kMilliText (n : Int) (w : World) (hn : n ≤ 9223372036854775807) :
    Calls Try.prog 41 #[.int .i64 n] w fun e w' => e = .returned (.string (bs (mtxt n))) ∧ Below w.heap.size w w' := by
  by_cases h : n < 0
  · have HR := Lib.hid (mtxt_neg h)
    go_enter Try.func41, Try.ntmps41
    go_wp2_with fail
    go_ret
    exact ⟨by rw [HR.out]; rfl, Below.refl _ _⟩
  · obtain ⟨m, rfl⟩ : ∃ m : Nat, n = (m : Int) := ⟨n.toNat, by omega⟩
    exact kMilliText_nat m w (by omega)

theorem kRefMilliText (n : Int) (w : World) (hn : n ≤ 9223372036854775807) :
    Calls Try.prog 42 #[.int .i64 n] w fun e w' => e = .returned (.string (bs (mtxt n))) ∧ Below w.heap.size w w' := by
  by_cases h : n < 0
  · have HR := Lib.hid (mtxt_neg h)
    go_enter Try.func42, Try.ntmps42
    go_wp2_with fail
    go_ret
    exact ⟨by rw [HR.out]; rfl, Below.refl _ _⟩
  · obtain ⟨m, rfl⟩ : ∃ m : Nat, n = (m : Int) := ⟨n.toNat, by omega⟩
    exact kRefMilliText_nat m w (by omega)
end Go.Proofs.Ytglihjdbbpohlaa.W
