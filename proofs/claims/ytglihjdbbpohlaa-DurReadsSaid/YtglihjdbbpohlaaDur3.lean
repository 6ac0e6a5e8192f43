/- Contract of the program's text of spans. -/
import Derived.Test.YtglihjdbbpohlaaTxt1
import Derived.Test.YtglihjdbbpohlaaDur1
import Derived.Test.YtglihjdbbpohlaaPlV
import Derived.Deep.RegionWith
namespace Go.Proofs.Ytglihjdbbpohlaa.W
open Go.RowKit Go.Proofs.Ytglihjdbbpohlaa.Pl

theorem bcell {W w1 : World} (hb : Below W.heap.size W w1) : (∀ b o, b < W.heap.size → w1.cell? ⟨b, o, none⟩ = W.cell? ⟨b, o, none⟩) ∧ (∀ b o, b < W.heap.size → w1.frozen? ⟨b, o, none⟩ = W.frozen? ⟨b, o, none⟩) :=
  ⟨fun b o h => hb.cell (p := ⟨b, o, none⟩) h, fun b o h => hb.frozen (p := ⟨b, o, none⟩) h⟩
theorem cat_size {a b : ByteArray} (h : a.size ≤ 13) (h2 : b.size ≤ 2) : (a ++ b).size ≤ 15 := by rw [ByteArray.size_append]; omega
theorem kTextC (n : Int) (w : World) (h1 : -9223372036854775808 ≤ n) (h2 : n ≤ 9223372036854775807) (l : List UInt8) (hl : txt n = l) :
    Calls Try.prog 39 #[.int .i64 n] w fun e w' => e = .returned (.string (bs l)) ∧ Below w.heap.size w w' := hl ▸ kText n w h1 h2
theorem durAt0 (w : World) : (Instr.index 95 (.agg #[.int .i64 3600000, .string ⟨#[104]⟩, .int .i64 60000, .string ⟨#[109]⟩, .int .i64 1000, .string ⟨#[115]⟩, .int .i64 1, .string ⟨#[109, 115]⟩]) (.int .i64 0)).run Try.prog w = .ok (.agg #[.int .i64 3600000, .string ⟨#[104]⟩]) w := by kernel_rfl
theorem durAt1 (w : World) : (Instr.index 95 (.agg #[.int .i64 3600000, .string ⟨#[104]⟩, .int .i64 60000, .string ⟨#[109]⟩, .int .i64 1000, .string ⟨#[115]⟩, .int .i64 1, .string ⟨#[109, 115]⟩]) (.int .i64 1)).run Try.prog w = .ok (.agg #[.int .i64 60000, .string ⟨#[109]⟩]) w := by kernel_rfl
theorem durAt2 (w : World) : (Instr.index 95 (.agg #[.int .i64 3600000, .string ⟨#[104]⟩, .int .i64 60000, .string ⟨#[109]⟩, .int .i64 1000, .string ⟨#[115]⟩, .int .i64 1, .string ⟨#[109, 115]⟩]) (.int .i64 2)).run Try.prog w = .ok (.agg #[.int .i64 1000, .string ⟨#[115]⟩]) w := by kernel_rfl
theorem durAt3 (w : World) : (Instr.index 95 (.agg #[.int .i64 3600000, .string ⟨#[104]⟩, .int .i64 60000, .string ⟨#[109]⟩, .int .i64 1000, .string ⟨#[115]⟩, .int .i64 1, .string ⟨#[109, 115]⟩]) (.int .i64 3)).run Try.prog w = .ok (.agg #[.int .i64 1, .string ⟨#[109, 115]⟩]) w := by kernel_rfl

set_option maxRecDepth 100000 in
set_option maxHeartbeats 4000000 in
theorem kDurText_nat (m : Nat) (w : World) (hm0 : m ≠ 0) (hm : m ≤ 1099511627776) :
    Calls Try.prog 52 #[.int .i64 m] w fun e w' => e = .returned (.string (bs (tl0 m))) ∧ Below w.heap.size w w' := by
  have z0 : ((m : Int) == 0) = false := beqF (by omega)
  have z1 : decide ((m : Int) < 0) = false := decF (by omega)
  have z2 : decide ((1099511627776 : Int) < (m : Int)) = false := decF (by omega)
  clear hm0
  go_enter Try.func52, Try.ntmps52
  go_wp2_with fail
  go_loopw [0, 3, 22] (fun n out i wr => ∃ (k v : Nat) (acc : List UInt8), k ≤ 4 ∧ v ≤ 1099511627776 ∧ acc.length ≤ 20 * k ∧ Hid (acc ++ tlK k v = tl0 m) ∧ n = .int .i64 v ∧ out = .string (bs acc) ∧ i = .int .i64 k ∧ Below w.heap.size w wr) (fun _ _ i _ => 4 - (intOf i).toNat)
  case atStart => exact ⟨0, m, [], by omega, hm, by simp, Lib.hid rfl, rfl, rfl, rfl, Below.refl _ _⟩
  case round =>
    obtain ⟨k, v, acc, hk, hv, hl, HT, rfl, rfl, rfl, hb⟩ := hrel
    rcases (show k = 0 ∨ k = 1 ∨ k = 2 ∨ k = 3 ∨ k = 4 by omega) with rfl | rfl | rfl | rfl | rfl
    · have hix := durAt0
      by_cases hz : v / 3600000 = 0
      · have HN : Hid (acc ++ tlK 1 v = tl0 m) := Lib.hid (by rw [← HT.out]; show acc ++ _ = acc ++ (grp (v / 3600000) [104] ++ tl1 (v % 3600000)); rw [grp_zero _ hz, List.nil_append, show v % 3600000 = v by omega]; rfl)
        have hq : ¬ (0 : Int) < (v : Int) / 3600000 := by omega
        go_wp2_with fail
        go_roundw
        case rel => exact ⟨1, v, acc, by omega, by omega, by omega, HN, rfl, rfl, rfl, (hb.alloc hb.size _)⟩
        case measure => simp [intOf]
      · have hq : (0 : Int) < (v : Int) / 3600000 := by omega
        have HD := Lib.hid (show txt ((v : Int) / 3600000) = dec (v / 3600000) by rw [txt_pos (by omega)]; rfl)
        have HN : Hid (acc ++ (dec (v / 3600000) ++ [104]) ++ tlK 1 (v % 3600000) = tl0 m) := Lib.hid (by rw [← HT.out]; show _ = acc ++ (grp (v / 3600000) [104] ++ tl1 (v % 3600000)); rw [grp_pos _ hz]; rw [List.append_assoc]; rfl)
        have s1 : (bs acc).size ≤ 80 := by rw [bs_size]; omega
        have s2 : (bs (dec (v / 3600000))).size ≤ 13 := by rw [bs_size]; exact dec_len40 (by omega)
        have s3 : (bs (dec (v / 3600000)) ++ (⟨#[104]⟩ : ByteArray)).size ≤ 15 := cat_size s2 (by decide)
        have hl2 : (acc ++ (dec (v / 3600000) ++ [104])).length ≤ 20 * 1 := by rw [List.length_append, List.length_append]; rw [bs_size] at s2; simp; omega
        have hap : bs acc ++ (bs (dec (v / 3600000)) ++ (⟨#[104]⟩ : ByteArray)) = bs (acc ++ (dec (v / 3600000) ++ [104])) := by rw [← bs_append, ← bs_append]; rfl
        have Hap := Lib.hid hap
        clear hap
        go_wp2_with fail
        go_region_with (go_at_call 39; refine (kTextC _ _ (by omega) (by omega) _ HD.out).mono ?_; rintro e w' ⟨rfl, hb'⟩; obtain ⟨hc, hf⟩ := bcell hb')
        all_goals
          go_wp2
          go_roundw
          case rel => exact ⟨1, v % 3600000, acc ++ (dec (v / 3600000) ++ [104]), by omega, by omega, hl2, HN, by congr 1; omega, by rw [Hap.out], rfl, (hb.alloc hb.size _).drew.trans (hb'.mono (by have := hb.size; simp; omega))⟩
          case measure => simp [intOf]
    · have hix := durAt1
      by_cases hz : v / 60000 = 0
      · have HN : Hid (acc ++ tlK 2 v = tl0 m) := Lib.hid (by rw [← HT.out]; show acc ++ _ = acc ++ (grp (v / 60000) [109] ++ tl2 (v % 60000)); rw [grp_zero _ hz, List.nil_append, show v % 60000 = v by omega]; rfl)
        have hq : ¬ (0 : Int) < (v : Int) / 60000 := by omega
        go_wp2_with fail
        go_roundw
        case rel => exact ⟨2, v, acc, by omega, by omega, by omega, HN, rfl, rfl, rfl, (hb.alloc hb.size _)⟩
        case measure => simp [intOf]
      · have hq : (0 : Int) < (v : Int) / 60000 := by omega
        have HD := Lib.hid (show txt ((v : Int) / 60000) = dec (v / 60000) by rw [txt_pos (by omega)]; rfl)
        have HN : Hid (acc ++ (dec (v / 60000) ++ [109]) ++ tlK 2 (v % 60000) = tl0 m) := Lib.hid (by rw [← HT.out]; show _ = acc ++ (grp (v / 60000) [109] ++ tl2 (v % 60000)); rw [grp_pos _ hz]; rw [List.append_assoc]; rfl)
        have s1 : (bs acc).size ≤ 80 := by rw [bs_size]; omega
        have s2 : (bs (dec (v / 60000))).size ≤ 13 := by rw [bs_size]; exact dec_len40 (by omega)
        have s3 : (bs (dec (v / 60000)) ++ (⟨#[109]⟩ : ByteArray)).size ≤ 15 := cat_size s2 (by decide)
        have hl2 : (acc ++ (dec (v / 60000) ++ [109])).length ≤ 20 * 2 := by rw [List.length_append, List.length_append]; rw [bs_size] at s2; simp; omega
        have hap : bs acc ++ (bs (dec (v / 60000)) ++ (⟨#[109]⟩ : ByteArray)) = bs (acc ++ (dec (v / 60000) ++ [109])) := by rw [← bs_append, ← bs_append]; rfl
        have Hap := Lib.hid hap
        clear hap
        go_wp2_with fail
        go_region_with (go_at_call 39; refine (kTextC _ _ (by omega) (by omega) _ HD.out).mono ?_; rintro e w' ⟨rfl, hb'⟩; obtain ⟨hc, hf⟩ := bcell hb')
        all_goals
          go_wp2
          go_roundw
          case rel => exact ⟨2, v % 60000, acc ++ (dec (v / 60000) ++ [109]), by omega, by omega, hl2, HN, by congr 1; omega, by rw [Hap.out], rfl, (hb.alloc hb.size _).drew.trans (hb'.mono (by have := hb.size; simp; omega))⟩
          case measure => simp [intOf]
    · have hix := durAt2
      by_cases hz : v / 1000 = 0
      · have HN : Hid (acc ++ tlK 3 v = tl0 m) := Lib.hid (by rw [← HT.out]; show acc ++ _ = acc ++ (grp (v / 1000) [115] ++ tl3 (v % 1000)); rw [grp_zero _ hz, List.nil_append, show v % 1000 = v by omega]; rfl)
        have hq : ¬ (0 : Int) < (v : Int) / 1000 := by omega
        go_wp2_with fail
        go_roundw
        case rel => exact ⟨3, v, acc, by omega, by omega, by omega, HN, rfl, rfl, rfl, (hb.alloc hb.size _)⟩
        case measure => simp [intOf]
      · have hq : (0 : Int) < (v : Int) / 1000 := by omega
        have HD := Lib.hid (show txt ((v : Int) / 1000) = dec (v / 1000) by rw [txt_pos (by omega)]; rfl)
        have HN : Hid (acc ++ (dec (v / 1000) ++ [115]) ++ tlK 3 (v % 1000) = tl0 m) := Lib.hid (by rw [← HT.out]; show _ = acc ++ (grp (v / 1000) [115] ++ tl3 (v % 1000)); rw [grp_pos _ hz]; rw [List.append_assoc]; rfl)
        have s1 : (bs acc).size ≤ 80 := by rw [bs_size]; omega
        have s2 : (bs (dec (v / 1000))).size ≤ 13 := by rw [bs_size]; exact dec_len40 (by omega)
        have s3 : (bs (dec (v / 1000)) ++ (⟨#[115]⟩ : ByteArray)).size ≤ 15 := cat_size s2 (by decide)
        have hl2 : (acc ++ (dec (v / 1000) ++ [115])).length ≤ 20 * 3 := by rw [List.length_append, List.length_append]; rw [bs_size] at s2; simp; omega
        have hap : bs acc ++ (bs (dec (v / 1000)) ++ (⟨#[115]⟩ : ByteArray)) = bs (acc ++ (dec (v / 1000) ++ [115])) := by rw [← bs_append, ← bs_append]; rfl
        have Hap := Lib.hid hap
        clear hap
        go_wp2_with fail
        go_region_with (go_at_call 39; refine (kTextC _ _ (by omega) (by omega) _ HD.out).mono ?_; rintro e w' ⟨rfl, hb'⟩; obtain ⟨hc, hf⟩ := bcell hb')
        all_goals
          go_wp2
          go_roundw
          case rel => exact ⟨3, v % 1000, acc ++ (dec (v / 1000) ++ [115]), by omega, by omega, hl2, HN, by congr 1; omega, by rw [Hap.out], rfl, (hb.alloc hb.size _).drew.trans (hb'.mono (by have := hb.size; simp; omega))⟩
          case measure => simp [intOf]
    · have hix := durAt3
      by_cases hz : v = 0
      · have HN : Hid (acc ++ tlK 4 0 = tl0 m) := Lib.hid (by rw [← HT.out]; show acc ++ _ = acc ++ (grp v [109, 115]); rw [grp_zero _ hz]; rfl)
        have hq : ¬ (0 : Int) < (v : Int) := by omega
        go_wp2_with fail
        go_roundw
        case rel => exact ⟨4, 0, acc, by omega, by omega, by omega, HN, by congr 1; omega, rfl, rfl, (hb.alloc hb.size _)⟩
        case measure => simp [intOf]
      · have hq : (0 : Int) < (v : Int) := by omega
        have HD := Lib.hid (show txt ((v : Int)) = dec (v) by rw [txt_pos (by omega)]; rfl)
        have HN : Hid (acc ++ (dec (v) ++ [109, 115]) ++ tlK 4 (v % 1) = tl0 m) := Lib.hid (by rw [← HT.out]; show _ = acc ++ (grp v [109, 115]); rw [grp_pos _ hz]; rw [show tlK 4 _ = [] from rfl, List.append_nil])
        have s1 : (bs acc).size ≤ 80 := by rw [bs_size]; omega
        have s2 : (bs (dec (v))).size ≤ 13 := by rw [bs_size]; exact dec_len40 (by omega)
        have s3 : (bs (dec (v)) ++ (⟨#[109, 115]⟩ : ByteArray)).size ≤ 15 := cat_size s2 (by decide)
        have hl2 : (acc ++ (dec (v) ++ [109, 115])).length ≤ 20 * 4 := by rw [List.length_append, List.length_append]; rw [bs_size] at s2; simp; omega
        have hap : bs acc ++ (bs (dec (v)) ++ (⟨#[109, 115]⟩ : ByteArray)) = bs (acc ++ (dec (v) ++ [109, 115])) := by rw [← bs_append, ← bs_append]; rfl
        have Hap := Lib.hid hap
        clear hap
        go_wp2_with fail
        go_region_with (go_at_call 39; refine (kTextC _ _ (by omega) (by omega) _ HD.out).mono ?_; rintro e w' ⟨rfl, hb'⟩; obtain ⟨hc, hf⟩ := bcell hb')
        all_goals
          go_wp2
          go_roundw
          case rel => exact ⟨4, v % 1, acc ++ (dec (v) ++ [109, 115]), by omega, by omega, hl2, HN, by congr 1; omega, by rw [Hap.out], rfl, (hb.alloc hb.size _).drew.trans (hb'.mono (by have := hb.size; simp; omega))⟩
          case measure => simp [intOf]
    · go_wp2_with fail
      go_ret
      exact ⟨by rw [← HT.out, show tlK 4 v = [] from rfl, List.append_nil]; rfl, hb⟩

theorem kDurText (n : Int) (w : World) :
    Calls Try.prog 52 #[.int .i64 n] w fun e w' => e = .returned (.string (bs (durT n))) ∧ Below w.heap.size w w' := by
  by_cases h : n < 0 ∨ 1099511627776 < n
  · have HR := Lib.hid (durT_out h)
    rcases h with h | h
    all_goals
      go_enter Try.func52, Try.ntmps52
      go_wp2_with fail
      go_ret
      exact ⟨by rw [HR.out]; rfl, Below.refl _ _⟩
  · obtain ⟨m, rfl⟩ : ∃ m : Nat, n = (m : Int) := ⟨n.toNat, by omega⟩
    by_cases h0 : m = 0
    · subst h0
      have HR := Lib.hid durT_zero
      go_enter Try.func52, Try.ntmps52
      go_wp2_with fail
      go_ret
      exact ⟨by rw [show ((0 : Nat) : Int) = 0 from rfl, HR.out]; rfl, Below.refl _ _⟩
    · rw [durT_pos h0 (by omega)]
      exact kDurText_nat m w h0 (by omega)
end Go.Proofs.Ytglihjdbbpohlaa.W
