/- Notes, shown by the reference. -/
import Derived.Test.YtcphneofdjelpaaEv21
namespace Go.Proofs.Ytcphneofdjelpaa.W
open Go.RowKit Go.Proofs.Ytcphneofdjelpaa.Pl

theorem cat_s (a l : List UInt8) : bs a ++ bs l ++ { data := #[10] } = bs (a ++ (l ++ [10])) := by
  rw [show ({ data := #[10] } : ByteArray) = bs [10] from rfl, bs_append, bs_append, List.append_assoc]

set_option maxRecDepth 100000 in
set_option maxHeartbeats 8000000 in
theorem kShowR (v : Go.Value) (xs : List NV) (w : World) (hn : xs.length ≤ 60) (hr : NRow w v xs) (hok : ∀ x ∈ xs, x.ok) :
    Calls Try.prog 17 #[v] w fun e w' => e = .returned (.string (bs (showT xs))) ∧ Below w.heap.size w w' := by
  obtain ⟨A, cap, rfl, hcap, hcap2, hcell⟩ := hr
  unfold maxLen at hcap2
  have HL := Lib.hid hcell
  have HK := Lib.hid hok
  obtain ⟨S, hS⟩ : ∃ S : Nat → List UInt8, ∀ k, S k = showT (xs.take k) := ⟨_, fun _ => rfl⟩
  have HZ := Lib.hid (fun k hk => show (S k).length ≤ 66360 by rw [hS]; exact showT_take xs k hk hok)
  have HS := Lib.hid hS
  clear hcell hok hS
  obtain ⟨n, hnn⟩ : ∃ n, xs.length = n := ⟨_, rfl⟩
  have HN := Lib.hid hnn
  rw [hnn] at hn hcap HL ⊢
  clear hnn
  have HR := Lib.hid (show showT xs = S n by rw [HS.out, List.take_of_length_le (by have := HN.out; omega)])
  rw [HR.out]
  clear HR
  go_enter Try.func17, Try.ntmps17
  go_wp2_with fail
  go_loopw [3, 4] (fun s i wr => ∃ (k : Nat), k ≤ n ∧ s = .string (bs (S k)) ∧ i = .int .i64 k ∧ Below w.heap.size w wr) (fun _ i _ => n - (intOf i).toNat)
  case atStart => exact ⟨0, Nat.zero_le _, by rw [HS.out]; rfl, rfl, Below.refl _ _⟩
  case round =>
    obtain ⟨k, hk, rfl, rfl, hbl⟩ := hrel
    by_cases hlt : k < n
    · obtain ⟨b, off, rfl, hb, hL⟩ := HL.out (by omega)
      obtain ⟨x, hx⟩ : ∃ x, xs[k]? = some x := ⟨_, List.getElem?_eq_getElem (by have := HN.out; omega)⟩
      have HRg := Lib.hid (show wr.rangeAt b (off + k * 22) x.cells from fun j v hv => (hbl.cell (p := ⟨b, off + k * 22 + j, none⟩) hb).trans (hL k x hx j v hv))
      have HI := Lib.hid (show (Try.prog.info? 36).map (·.size) = some x.cells.length by rw [NV.len]; exact infoRNsz)
      have hxo := HK.out x (List.mem_of_getElem? hx)
      have K1 := Lib.hid (fun w1 => kTextR x w1 hxo)
      have HT1 := Lib.hid (show S (k + 1) = S k ++ (noteT x ++ [10]) by rw [HS.out, HS.out, take_snoc hx, showT_snoc])
      have hz1 : (bs (noteT x)).size ≤ 1105 := by rw [bs_size]; exact noteT_len hxo
      have hzk : (bs (S k)).size ≤ 66360 := by rw [bs_size]; exact HZ.out k (by omega)
      clear hL hx hxo
      go_wp2_with (first
        | (with_reducible refine wpList_load_mid rfl 36 _ rfl b (off + k * 22) rfl x.cells _ HRg.out Try.underlying36 rfl HI.out ?_))
      refine (K1.out wr).mono ?_
      rintro e w1 ⟨rfl, hb1⟩
      have hb2 := hbl.trans (hb1.mono hbl.size)
      clear hb1 hbl HRg
      go_wp2_with fail
      exact ⟨⟨k + 1, by omega, by rw [HT1.out, cat_s], by go_num, hb2⟩, by simp [intOf]; omega⟩
    · obtain rfl : k = n := by omega
      go_wp2_with fail
      go_ret
      exact ⟨rfl, hbl⟩
end Go.Proofs.Ytcphneofdjelpaa.W
