/- Contract of the reference's text of spans. -/
import Derived.Test.YtglihjdbbpohlaaTxt2
import Derived.Test.YtglihjdbbpohlaaDur3
import Derived.Deep.RegionHeld3
namespace Go.Proofs.Ytglihjdbbpohlaa.W
open Go.RowKit Go.Proofs.Ytglihjdbbpohlaa.Pl

theorem kRefTextC (n : Int) (w : World) (h1 : -9223372036854775808 ≤ n) (h2 : n ≤ 9223372036854775807) (l : List UInt8) (hl : txt n = l) :
    Calls Try.prog 40 #[.int .i64 n] w fun e w' => e = .returned (.string (bs l)) ∧ Below w.heap.size w w' := hl ▸ kRefText n w h1 h2
theorem kRefTextS (n : Int) (w : World) (h1 : -9223372036854775808 ≤ n) (h2 : n ≤ 9223372036854775807) (l : List UInt8) (hl : txt n = l) (x y : Addr) (u v : Go.Value) (hx : w.cell? x = some u) (hy : w.cell? y = some v) :
    Calls Try.prog 40 #[.int .i64 n] w fun e w' => e = .returned (.string (bs l)) ∧ Below w.heap.size w w' ∧ w'.cell? x = some u ∧ w'.cell? y = some v :=
  (kRefTextC n w h1 h2 l hl).mono fun _ _ ⟨he, hb⟩ => ⟨he, hb, (hb.cell (World.block_lt_of_cell? _ _ hx)).trans hx, (hb.cell (World.block_lt_of_cell? _ _ hy)).trans hy⟩
theorem kLongs (w : World) :
    Calls Try.prog 74 #[] w fun e w' => e = .returned (.agg #[.int .i64 3600000, .int .i64 60000, .int .i64 1000, .int .i64 1]) ∧ Below w.heap.size w w' := by
  go_enter Try.func74, Try.ntmps74
  go_wp2
  refine bodyPost_ret (v := .agg #[.int .i64 3600000, .int .i64 60000, .int .i64 1000, .int .i64 1]) (by simp [results, Try.results74, go_sem]) rfl ⟨rfl, ?_⟩
  exact (Below.refl _ _).alloc (Nat.le_refl _) _
theorem kNames (w : World) :
    Calls Try.prog 75 #[] w fun e w' => e = .returned (.agg #[.string ⟨#[104]⟩, .string ⟨#[109]⟩, .string ⟨#[115]⟩, .string ⟨#[109, 115]⟩]) ∧ Below w.heap.size w w' := by
  go_enter Try.func75, Try.ntmps75
  go_wp2
  refine bodyPost_ret (v := .agg #[.string ⟨#[104]⟩, .string ⟨#[109]⟩, .string ⟨#[115]⟩, .string ⟨#[109, 115]⟩]) (by simp [results, Try.results75, go_sem]) rfl ⟨rfl, ?_⟩
  exact (Below.refl _ _).alloc (Nat.le_refl _) _

set_option maxRecDepth 100000 in
set_option maxHeartbeats 4000000 in
theorem kRefDurText_nat (m : Nat) (w : World) (hm0 : m ≠ 0) (hm : m ≤ 1099511627776) :
    Calls Try.prog 53 #[.int .i64 m] w fun e w' => e = .returned (.string (bs (tl0 m))) ∧ Below w.heap.size w w' := by
  have z0 : ((m : Int) == 0) = false := beqF (by omega)
  have z1 : decide ((m : Int) < 0) = false := decF (by omega)
  have z2 : decide ((1099511627776 : Int) < (m : Int)) = false := decF (by omega)
  clear hm0
  go_enter Try.func53, Try.ntmps53
  go_wp2_with fail
  refine (kLongs _).mono ?_
  rintro e w1 ⟨rfl, hb1⟩
  go_wp2_with fail
  refine (kNames _).mono ?_
  rintro e w2 ⟨rfl, hb2⟩
  go_wp2_with fail
  obtain ⟨W0, hW0⟩ : ∃ W0, W0 = w2.alloc (Obj.cells #[.string ⟨#[104]⟩, .string ⟨#[109]⟩, .string ⟨#[115]⟩, .string ⟨#[109, 115]⟩] 77) := ⟨_, rfl⟩
  rw [← hW0]
  have hs1 : w1.heap.size < w2.heap.size := by have := hb2.size; simp at this; omega
  have hs2 : w2.heap.size < W0.heap.size := by rw [hW0]; simp
  have hcell : ∀ j, w2.cell? ⟨w1.heap.size, j, none⟩ = (#[.int .i64 3600000, .int .i64 60000, .int .i64 1000, .int .i64 1] : Array Go.Value)[j]? := fun j => by
    rw [hb2.cell (p := ⟨w1.heap.size, j, none⟩) (by simp), World.cell?_alloc_at _ _ _ _ rfl]
  have A0 : W0.cell? ⟨w1.heap.size, 0, none⟩ = some (.int .i64 3600000) := by rw [hW0, World.cell?_alloc_past _ _ _ hs1, hcell]; rfl
  have S0 : W0.cell? ⟨w2.heap.size, 0, none⟩ = some (.string ⟨#[104]⟩) := by rw [hW0, World.cell?_alloc_at _ _ _ _ rfl]; rfl
  have A1 : W0.cell? ⟨w1.heap.size, 1, none⟩ = some (.int .i64 60000) := by rw [hW0, World.cell?_alloc_past _ _ _ hs1, hcell]; rfl
  have S1 : W0.cell? ⟨w2.heap.size, 1, none⟩ = some (.string ⟨#[109]⟩) := by rw [hW0, World.cell?_alloc_at _ _ _ _ rfl]; rfl
  have A2 : W0.cell? ⟨w1.heap.size, 2, none⟩ = some (.int .i64 1000) := by rw [hW0, World.cell?_alloc_past _ _ _ hs1, hcell]; rfl
  have S2 : W0.cell? ⟨w2.heap.size, 2, none⟩ = some (.string ⟨#[115]⟩) := by rw [hW0, World.cell?_alloc_at _ _ _ _ rfl]; rfl
  have A3 : W0.cell? ⟨w1.heap.size, 3, none⟩ = some (.int .i64 1) := by rw [hW0, World.cell?_alloc_past _ _ _ hs1, hcell]; rfl
  have S3 : W0.cell? ⟨w2.heap.size, 3, none⟩ = some (.string ⟨#[109, 115]⟩) := by rw [hW0, World.cell?_alloc_at _ _ _ _ rfl]; rfl
  have hbW : Below w.heap.size w W0 := by
    rw [hW0]
    exact ((hb1.alloc hb1.size _).trans (hb2.mono (by have := hb1.size; simp; omega))).alloc (by have := hb1.size; have := hb2.size; simp at this; omega) _
  have hs0 : w1.heap.size < W0.heap.size := by omega
  clear hcell hb1 hb2 hs1 hW0
  generalize w1.heap.size = B1 at *
  generalize w2.heap.size = B2 at *
  go_loopw [0, 3, 6] (fun n out i wr => ∃ (k v : Nat) (acc : List UInt8), k ≤ 4 ∧ v ≤ 1099511627776 ∧ acc.length ≤ 20 * k ∧ Hid (acc ++ tlK k v = tl0 m) ∧ n = .int .i64 v ∧ out = .string (bs acc) ∧ i = .int .i64 k ∧ Below W0.heap.size W0 wr) (fun _ _ i _ => 4 - (intOf i).toNat)
  case atStart => exact ⟨0, m, [], by omega, hm, by simp, Lib.hid rfl, rfl, rfl, rfl, Below.refl _ _⟩
  case round =>
    obtain ⟨k, v, acc, hk, hv, hl, HT, rfl, rfl, rfl, hb⟩ := hrel
    have hs3 : B1 < wr.heap.size := by have := hb.size; omega
    have hs4 : B2 < wr.heap.size := by have := hb.size; omega
    rcases (show k = 0 ∨ k = 1 ∨ k = 2 ∨ k = 3 ∨ k = 4 by omega) with rfl | rfl | rfl | rfl | rfl
    · have a1 : wr.cell? ⟨B1, 0, none⟩ = some (.int .i64 3600000) := (hb.cell (p := ⟨B1, 0, none⟩) hs0).trans A0
      have a2 : wr.cell? ⟨B2, 0, none⟩ = some (.string ⟨#[104]⟩) := (hb.cell (p := ⟨B2, 0, none⟩) hs2).trans S0
      by_cases hz : v / 3600000 = 0
      · have HN : Hid (acc ++ tlK 1 v = tl0 m) := Lib.hid (by rw [← HT.out]; show acc ++ _ = acc ++ (grp (v / 3600000) [104] ++ tl1 (v % 3600000)); rw [grp_zero _ hz, List.nil_append, show v % 3600000 = v by omega]; rfl)
        have hq : ¬ (0 : Int) < (v : Int) / 3600000 := by omega
        have hmod : (v : Int) % 3600000 = v := by omega
        go_wp2_with fail
        go_roundw
        case rel => exact ⟨1, v, acc, by omega, by omega, by omega, HN, by first | (congr 1; done) | (congr 1; omega), rfl, rfl, hb⟩
        case measure => simp [intOf]
      · have hq : (0 : Int) < (v : Int) / 3600000 := by omega
        have HD := Lib.hid (show txt ((v : Int) / 3600000) = dec (v / 3600000) by rw [txt_pos (by omega)]; rfl)
        have HN : Hid (acc ++ (dec (v / 3600000) ++ [104]) ++ tlK 1 (v % 3600000) = tl0 m) := Lib.hid (by rw [← HT.out]; show _ = acc ++ (grp (v / 3600000) [104] ++ tl1 (v % 3600000)); rw [grp_pos _ hz]; rw [List.append_assoc]; rfl)
        have s1 : (bs acc).size ≤ 80 := by rw [bs_size]; omega
        have s2 : (bs (dec (v / 3600000))).size ≤ 13 := by rw [bs_size]; exact dec_len40 (by omega)
        have s3 : (bs acc ++ bs (dec (v / 3600000))).size ≤ 93 := by rw [ByteArray.size_append]; omega
        have hl2 : (acc ++ (dec (v / 3600000) ++ [104])).length ≤ 20 * 1 := by rw [List.length_append, List.length_append]; rw [bs_size] at s2; simp; omega
        have hap : bs acc ++ bs (dec (v / 3600000)) ++ (⟨#[104]⟩ : ByteArray) = bs (acc ++ (dec (v / 3600000) ++ [104])) := by rw [← List.append_assoc, ← bs_append, ← bs_append]; rfl
        have Hap := Lib.hid hap
        clear hap
        go_wp2_with fail
        have hdv : (v : Int).tdiv 3600000 = (v : Int) / 3600000 := by rw [Int.tdiv_eq_ediv_of_nonneg (by omega)]
        have hwv : IntKind.i64.wrap ((v : Int) / 3600000) = (v : Int) / 3600000 := IntWalk.i64_in _ (by omega)
        go_region_with (go_at_call 40; refine (kRefTextS _ _ (by omega) (by omega) _ HD.out ⟨B1, 0, none⟩ ⟨B2, 0, none⟩ (.int .i64 3600000) (.string ⟨#[104]⟩) (by first | assumption | simp [*]) (by first | assumption | simp [*])).mono ?_; rintro e w' ⟨rfl, hb', hc1, hc2⟩)
        all_goals
          go_wp2
          go_roundw
          case rel => exact ⟨1, v % 3600000, acc ++ (dec (v / 3600000) ++ [104]), by omega, by omega, hl2, HN, by first | (congr 1; done) | (congr 1; omega), by rw [Hap.out], rfl, hb.drew.trans (hb'.mono (by have := hb.size; simp; omega))⟩
          case measure => simp [intOf]
    · have a1 : wr.cell? ⟨B1, 1, none⟩ = some (.int .i64 60000) := (hb.cell (p := ⟨B1, 1, none⟩) hs0).trans A1
      have a2 : wr.cell? ⟨B2, 1, none⟩ = some (.string ⟨#[109]⟩) := (hb.cell (p := ⟨B2, 1, none⟩) hs2).trans S1
      by_cases hz : v / 60000 = 0
      · have HN : Hid (acc ++ tlK 2 v = tl0 m) := Lib.hid (by rw [← HT.out]; show acc ++ _ = acc ++ (grp (v / 60000) [109] ++ tl2 (v % 60000)); rw [grp_zero _ hz, List.nil_append, show v % 60000 = v by omega]; rfl)
        have hq : ¬ (0 : Int) < (v : Int) / 60000 := by omega
        have hmod : (v : Int) % 60000 = v := by omega
        go_wp2_with fail
        go_roundw
        case rel => exact ⟨2, v, acc, by omega, by omega, by omega, HN, by first | (congr 1; done) | (congr 1; omega), rfl, rfl, hb⟩
        case measure => simp [intOf]
      · have hq : (0 : Int) < (v : Int) / 60000 := by omega
        have HD := Lib.hid (show txt ((v : Int) / 60000) = dec (v / 60000) by rw [txt_pos (by omega)]; rfl)
        have HN : Hid (acc ++ (dec (v / 60000) ++ [109]) ++ tlK 2 (v % 60000) = tl0 m) := Lib.hid (by rw [← HT.out]; show _ = acc ++ (grp (v / 60000) [109] ++ tl2 (v % 60000)); rw [grp_pos _ hz]; rw [List.append_assoc]; rfl)
        have s1 : (bs acc).size ≤ 80 := by rw [bs_size]; omega
        have s2 : (bs (dec (v / 60000))).size ≤ 13 := by rw [bs_size]; exact dec_len40 (by omega)
        have s3 : (bs acc ++ bs (dec (v / 60000))).size ≤ 93 := by rw [ByteArray.size_append]; omega
        have hl2 : (acc ++ (dec (v / 60000) ++ [109])).length ≤ 20 * 2 := by rw [List.length_append, List.length_append]; rw [bs_size] at s2; simp; omega
        have hap : bs acc ++ bs (dec (v / 60000)) ++ (⟨#[109]⟩ : ByteArray) = bs (acc ++ (dec (v / 60000) ++ [109])) := by rw [← List.append_assoc, ← bs_append, ← bs_append]; rfl
        have Hap := Lib.hid hap
        clear hap
        go_wp2_with fail
        have hdv : (v : Int).tdiv 60000 = (v : Int) / 60000 := by rw [Int.tdiv_eq_ediv_of_nonneg (by omega)]
        have hwv : IntKind.i64.wrap ((v : Int) / 60000) = (v : Int) / 60000 := IntWalk.i64_in _ (by omega)
        go_region_with (go_at_call 40; refine (kRefTextS _ _ (by omega) (by omega) _ HD.out ⟨B1, 1, none⟩ ⟨B2, 1, none⟩ (.int .i64 60000) (.string ⟨#[109]⟩) (by first | assumption | simp [*]) (by first | assumption | simp [*])).mono ?_; rintro e w' ⟨rfl, hb', hc1, hc2⟩)
        all_goals
          go_wp2
          go_roundw
          case rel => exact ⟨2, v % 60000, acc ++ (dec (v / 60000) ++ [109]), by omega, by omega, hl2, HN, by first | (congr 1; done) | (congr 1; omega), by rw [Hap.out], rfl, hb.drew.trans (hb'.mono (by have := hb.size; simp; omega))⟩
          case measure => simp [intOf]
    · have a1 : wr.cell? ⟨B1, 2, none⟩ = some (.int .i64 1000) := (hb.cell (p := ⟨B1, 2, none⟩) hs0).trans A2
      have a2 : wr.cell? ⟨B2, 2, none⟩ = some (.string ⟨#[115]⟩) := (hb.cell (p := ⟨B2, 2, none⟩) hs2).trans S2
      by_cases hz : v / 1000 = 0
      · have HN : Hid (acc ++ tlK 3 v = tl0 m) := Lib.hid (by rw [← HT.out]; show acc ++ _ = acc ++ (grp (v / 1000) [115] ++ tl3 (v % 1000)); rw [grp_zero _ hz, List.nil_append, show v % 1000 = v by omega]; rfl)
        have hq : ¬ (0 : Int) < (v : Int) / 1000 := by omega
        have hmod : (v : Int) % 1000 = v := by omega
        go_wp2_with fail
        go_roundw
        case rel => exact ⟨3, v, acc, by omega, by omega, by omega, HN, by first | (congr 1; done) | (congr 1; omega), rfl, rfl, hb⟩
        case measure => simp [intOf]
      · have hq : (0 : Int) < (v : Int) / 1000 := by omega
        have HD := Lib.hid (show txt ((v : Int) / 1000) = dec (v / 1000) by rw [txt_pos (by omega)]; rfl)
        have HN : Hid (acc ++ (dec (v / 1000) ++ [115]) ++ tlK 3 (v % 1000) = tl0 m) := Lib.hid (by rw [← HT.out]; show _ = acc ++ (grp (v / 1000) [115] ++ tl3 (v % 1000)); rw [grp_pos _ hz]; rw [List.append_assoc]; rfl)
        have s1 : (bs acc).size ≤ 80 := by rw [bs_size]; omega
        have s2 : (bs (dec (v / 1000))).size ≤ 13 := by rw [bs_size]; exact dec_len40 (by omega)
        have s3 : (bs acc ++ bs (dec (v / 1000))).size ≤ 93 := by rw [ByteArray.size_append]; omega
        have hl2 : (acc ++ (dec (v / 1000) ++ [115])).length ≤ 20 * 3 := by rw [List.length_append, List.length_append]; rw [bs_size] at s2; simp; omega
        have hap : bs acc ++ bs (dec (v / 1000)) ++ (⟨#[115]⟩ : ByteArray) = bs (acc ++ (dec (v / 1000) ++ [115])) := by rw [← List.append_assoc, ← bs_append, ← bs_append]; rfl
        have Hap := Lib.hid hap
        clear hap
        go_wp2_with fail
        have hdv : (v : Int).tdiv 1000 = (v : Int) / 1000 := by rw [Int.tdiv_eq_ediv_of_nonneg (by omega)]
        have hwv : IntKind.i64.wrap ((v : Int) / 1000) = (v : Int) / 1000 := IntWalk.i64_in _ (by omega)
        go_region_with (go_at_call 40; refine (kRefTextS _ _ (by omega) (by omega) _ HD.out ⟨B1, 2, none⟩ ⟨B2, 2, none⟩ (.int .i64 1000) (.string ⟨#[115]⟩) (by first | assumption | simp [*]) (by first | assumption | simp [*])).mono ?_; rintro e w' ⟨rfl, hb', hc1, hc2⟩)
        all_goals
          go_wp2
          go_roundw
          case rel => exact ⟨3, v % 1000, acc ++ (dec (v / 1000) ++ [115]), by omega, by omega, hl2, HN, by first | (congr 1; done) | (congr 1; omega), by rw [Hap.out], rfl, hb.drew.trans (hb'.mono (by have := hb.size; simp; omega))⟩
          case measure => simp [intOf]
    · have a1 : wr.cell? ⟨B1, 3, none⟩ = some (.int .i64 1) := (hb.cell (p := ⟨B1, 3, none⟩) hs0).trans A3
      have a2 : wr.cell? ⟨B2, 3, none⟩ = some (.string ⟨#[109, 115]⟩) := (hb.cell (p := ⟨B2, 3, none⟩) hs2).trans S3
      by_cases hz : v = 0
      · have HN : Hid (acc ++ tlK 4 0 = tl0 m) := Lib.hid (by rw [← HT.out]; show acc ++ _ = acc ++ (grp v [109, 115]); rw [grp_zero _ hz]; rfl)
        have hq : ¬ (0 : Int) < (v : Int) := by omega
        have hmod : (v : Int) % 1 = 0 := by omega
        go_wp2_with fail
        go_roundw
        case rel => exact ⟨4, 0, acc, by omega, by omega, by omega, HN, by first | (congr 1; done) | (congr 1; omega), rfl, rfl, hb⟩
        case measure => simp [intOf]
      · have hq : (0 : Int) < (v : Int) := by omega
        have HD := Lib.hid (show txt ((v : Int)) = dec (v) by rw [txt_pos (by omega)]; rfl)
        have HN : Hid (acc ++ (dec (v) ++ [109, 115]) ++ tlK 4 (v % 1) = tl0 m) := Lib.hid (by rw [← HT.out]; show _ = acc ++ (grp v [109, 115]); rw [grp_pos _ hz]; rw [show tlK 4 _ = [] from rfl, List.append_nil])
        have s1 : (bs acc).size ≤ 80 := by rw [bs_size]; omega
        have s2 : (bs (dec (v))).size ≤ 13 := by rw [bs_size]; exact dec_len40 (by omega)
        have s3 : (bs acc ++ bs (dec (v))).size ≤ 93 := by rw [ByteArray.size_append]; omega
        have hl2 : (acc ++ (dec (v) ++ [109, 115])).length ≤ 20 * 4 := by rw [List.length_append, List.length_append]; rw [bs_size] at s2; simp; omega
        have hap : bs acc ++ bs (dec (v)) ++ (⟨#[109, 115]⟩ : ByteArray) = bs (acc ++ (dec (v) ++ [109, 115])) := by rw [← List.append_assoc, ← bs_append, ← bs_append]; rfl
        have Hap := Lib.hid hap
        clear hap
        go_wp2_with fail
        have hdv : (v : Int).tdiv 1 = (v : Int) := by rw [Int.tdiv_eq_ediv_of_nonneg (by omega)]; exact Int.ediv_one _
        have hwv : IntKind.i64.wrap ((v : Int)) = (v : Int) := IntWalk.i64_in _ (by omega)
        go_region_with (go_at_call 40; refine (kRefTextS _ _ (by omega) (by omega) _ HD.out ⟨B1, 3, none⟩ ⟨B2, 3, none⟩ (.int .i64 1) (.string ⟨#[109, 115]⟩) (by first | assumption | simp [*]) (by first | assumption | simp [*])).mono ?_; rintro e w' ⟨rfl, hb', hc1, hc2⟩)
        all_goals
          go_wp2
          go_roundw
          case rel => exact ⟨4, v % 1, acc ++ (dec (v) ++ [109, 115]), by omega, by omega, hl2, HN, by first | (congr 1; done) | (congr 1; omega), by rw [Hap.out], rfl, hb.drew.trans (hb'.mono (by have := hb.size; simp; omega))⟩
          case measure => simp [intOf]
    · go_wp2_with fail
      go_ret
      exact ⟨by rw [← HT.out, show tlK 4 v = [] from rfl, List.append_nil]; rfl, hbW.trans (hb.mono hbW.size)⟩

theorem kRefDurText (n : Int) (w : World) :
    Calls Try.prog 53 #[.int .i64 n] w fun e w' => e = .returned (.string (bs (durT n))) ∧ Below w.heap.size w w' := by
  by_cases h : n < 0 ∨ 1099511627776 < n
  · have HR := Lib.hid (durT_out h)
    rcases h with h | h
    all_goals
      go_enter Try.func53, Try.ntmps53
      go_wp2_with fail
      go_ret
      exact ⟨by rw [HR.out]; rfl, Below.refl _ _⟩
  · obtain ⟨m, rfl⟩ : ∃ m : Nat, n = (m : Int) := ⟨n.toNat, by omega⟩
    by_cases h0 : m = 0
    · subst h0
      have HR := Lib.hid durT_zero
      go_enter Try.func53, Try.ntmps53
      go_wp2_with fail
      go_ret
      exact ⟨by rw [show ((0 : Nat) : Int) = 0 from rfl, HR.out]; rfl, Below.refl _ _⟩
    · rw [durT_pos h0 (by omega)]
      exact kRefDurText_nat m w h0 (by omega)
end Go.Proofs.Ytglihjdbbpohlaa.W
