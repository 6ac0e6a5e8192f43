/- Words by number: kinds, commands, errors. -/
import Derived.Test.YtcphneofdjelpaaEv6
namespace Go.Proofs.Ytcphneofdjelpaa.W
open Go.RowKit Go.Proofs.Ytcphneofdjelpaa.Pl

/-- the word of a number, from 1 on -/
def wordN (l : List (List UInt8)) (n : Int) : List UInt8 := if n < 1 ∨ (l.length : Int) < n then [] else l.getD (n - 1).toNat []
theorem wordN_out {l : List (List UInt8)} {n : Int} (h : n < 1 ∨ (l.length : Int) < n) : wordN l n = [] := by unfold wordN; rw [if_pos h]
theorem wordN_in {l : List (List UInt8)} {m : Nat} {s : List UInt8} (h : l[m]? = some s) : wordN l ((m : Int) + 1) = s := by
  have hm := (List.getElem?_eq_some_iff.1 h).1
  unfold wordN
  rw [if_neg (by omega), show ((m : Int) + 1 - 1).toNat = m by omega, List.getD_eq_getElem?_getD, h]; rfl
def kindL : List (List UInt8) := [[98, 101, 103, 97, 110], [99, 97, 108, 108, 101, 100], [119, 97, 105, 116, 101, 100], [111, 118, 101, 114], [101, 110, 100, 101, 100], [114, 101, 115, 116, 97, 114, 116, 101, 100], [104, 101, 97, 108, 116, 104], [99, 114, 97, 115, 104, 101, 100], [102, 111, 114, 101, 105, 103, 110]]
def cmdL : List (List UInt8) := [[117, 112], [100, 111, 119, 110], [115, 116, 111, 112], [114, 101, 115, 116, 97, 114, 116], [115, 99, 97, 108, 101], [114, 109]]
def callL : List (List UInt8) := [[109, 97, 107, 101, 45, 110, 101, 116], [109, 97, 107, 101, 45, 118, 111, 108], [100, 114, 111, 112, 45, 110, 101, 116], [100, 114, 111, 112, 45, 118, 111, 108], [109, 97, 107, 101], [115, 116, 97, 114, 116], [115, 116, 111, 112], [100, 114, 111, 112]]
def errL : List (List UInt8) := [[111, 107], [110, 105, 108], [97, 114, 103, 117, 109, 101, 110, 116], [115, 121, 110, 116, 97, 120], [117, 110, 115, 101, 116], [101, 120, 116, 101, 110, 100, 115], [99, 121, 99, 108, 101], [117, 110, 107, 110, 111, 119, 110], [100, 105, 115, 97, 98, 108, 101, 100], [98, 111, 117, 110, 100], [116, 121, 112, 101], [116, 119, 105, 99, 101], [110, 111, 110, 101], [115, 116, 97, 116, 101], [102, 117, 108, 108], [102, 97, 117, 108, 116], [116, 105, 109, 101], [98, 117, 115, 121], [102, 111, 114, 109]]
/-- the word of an error -/
def errT (e : Int) : List UInt8 := if e < 0 ∨ 19 ≤ e then [63] else errL.getD e.toNat []
/-- texts as cells -/
def strs (l : List (List UInt8)) : Array Go.Value := (l.map fun s => Go.Value.string (bs s)).toArray

set_option maxRecDepth 100000 in
theorem kOne (n : Int) (b c : Nat) (l : List (List UInt8)) (w : World) (T : TypeId) (hb : w.heap[b]? = some (.cells (strs l) T (0, 0))) (hl : l.length ≤ 100) (r : List UInt8) (hr : wordN l n = r) :
    Calls Try.prog 35 #[.int .i64 n, .slice (some ⟨b, 0, none⟩) l.length c] w fun e w' => e = .returned (.string (bs r)) ∧ w = w' := by
  have HR := Lib.hid hr
  clear hr
  by_cases h1 : n < 1
  · have HE := Lib.hid (wordN_out (l := l) (Or.inl h1))
    rw [HE.out] at HR
    obtain rfl := HR.out
    go_enter Try.func35, Try.ntmps35
    go_wp2_with fail
    go_ret
    exact ⟨rfl, rfl⟩
  · by_cases h2 : (l.length : Int) < n
    · have HE := Lib.hid (wordN_out (l := l) (Or.inr h2))
      rw [HE.out] at HR
      obtain rfl := HR.out
      clear HR HE
      go_enter Try.func35, Try.ntmps35
      go_wp2_with fail
      go_ret
      exact ⟨rfl, rfl⟩
    · obtain ⟨m, rfl⟩ : ∃ m : Nat, n = (m : Int) + 1 := ⟨(n - 1).toNat, by omega⟩
      have hm : m < l.length := by omega
      have hs := List.getElem?_eq_getElem hm
      rw [wordN_in hs] at HR
      have hcell : w.cell? ⟨b, m, none⟩ = some (.string (bs r)) := by
        rw [cell_of_row w b m _ _ _ hb, strs, List.getElem?_toArray, List.getElem?_map, hs, HR.out]; rfl
      clear hb HR hs
      generalize l.length = L at *
      go_enter Try.func35, Try.ntmps35
      go_wp2_with fail
      go_ret
      exact ⟨rfl, rfl⟩

set_option maxRecDepth 100000 in
theorem kNameE (n : Int) (w : World) (r : List UInt8) (hr : wordN kindL n = r) :
    Calls Try.prog 20 #[.int .i64 n] w fun e w' => e = .returned (.string (bs r)) ∧ Below w.heap.size w w' := by
  have HK := Lib.hid (fun (w1 : World) hb => kOne n w.heap.size 9 kindL w1 9 hb (by decide) r hr)
  clear hr
  go_enter Try.func20, Try.ntmps20
  go_wp2_with fail
  refine (HK.out _ (heap_alloc_new w _)).mono ?_
  rintro e w1 ⟨rfl, rfl⟩
  go_wp2_with fail
  go_ret
  exact ⟨rfl, (Below.refl _ _).alloc (Nat.le_refl _) _⟩

set_option maxRecDepth 100000 in
theorem kCommandE (n : Int) (w : World) (r : List UInt8) (hr : wordN cmdL n = r) :
    Calls Try.prog 22 #[.int .i64 n] w fun e w' => e = .returned (.string (bs r)) ∧ Below w.heap.size w w' := by
  have HK := Lib.hid (fun (w1 : World) hb => kOne n w.heap.size 6 cmdL w1 9 hb (by decide) r hr)
  clear hr
  go_enter Try.func22, Try.ntmps22
  go_wp2_with fail
  refine (HK.out _ (heap_alloc_new w _)).mono ?_
  rintro e w1 ⟨rfl, rfl⟩
  go_wp2_with fail
  go_ret
  exact ⟨rfl, (Below.refl _ _).alloc (Nat.le_refl _) _⟩

theorem infoErr : (Try.prog.info? 71).map (·.size) = some 19 := by kernel_rfl
theorem strs_one (l : List (List UInt8)) : (strs l).all (·.oneCell') = true := all_oneCell_toArray (by intro v hv; obtain ⟨s, _, rfl⟩ := List.mem_map.1 hv; rfl)
theorem strs_at {l : List (List UInt8)} {m : Nat} {s : List UInt8} (h : l[m]? = some s) : (strs l).toList[m]? = some (.string (bs s)) := by
  show (l.map fun s => Go.Value.string (bs s))[m]? = _
  rw [List.getElem?_map, h]; rfl

set_option maxRecDepth 100000 in
theorem kErrno (n : Int) (w : World) (r : List UInt8) (hr : errT n = r) :
    Calls Try.prog 27 #[.int .i64 n] w fun e w' => e = .returned (.string (bs r)) ∧ Below w.heap.size w w' := by
  have HR := Lib.hid hr
  have HO := Lib.hid (strs_one errL)
  have HT := Lib.hid (fun (Z : Array Go.Value) (hZ : 19 ≤ Z.size) => there_new w Z 71 hZ)
  clear hr
  go_enter Try.func27, Try.ntmps27
  go_upto_region 2 with (first
    | (refine wpList_store_mid rfl 71 _ _ rfl w.heap.size 0 (strs errL) rfl rfl (HT.out _ (by decide)) infoErr HO.out ?_))
  obtain ⟨wo, hwo⟩ : ∃ wo, wo = (w.alloc (Obj.cells #[.string ⟨#[]⟩, .string ⟨#[]⟩, .string ⟨#[]⟩, .string ⟨#[]⟩, .string ⟨#[]⟩, .string ⟨#[]⟩, .string ⟨#[]⟩, .string ⟨#[]⟩, .string ⟨#[]⟩, .string ⟨#[]⟩, .string ⟨#[]⟩, .string ⟨#[]⟩, .string ⟨#[]⟩, .string ⟨#[]⟩, .string ⟨#[]⟩, .string ⟨#[]⟩, .string ⟨#[]⟩, .string ⟨#[]⟩, .string ⟨#[]⟩] 71)).setCells w.heap.size 0 (strs errL).toList := ⟨_, rfl⟩
  rw [← hwo]
  have hro : wo.rangeAt w.heap.size 0 (strs errL).toList := by rw [hwo]; exact World.rangeAt_setCells_same _ _ _ _ (there_new _ _ _ (by decide))
  have hbo : Below w.heap.size w wo := by rw [hwo]; exact below_setCells _ _ _ ((Below.refl _ _).alloc (Nat.le_refl _) _) (Nat.le_refl _)
  have HRO := Lib.hid hro
  clear hwo HT HO hro
  by_cases h1 : n < 0
  · have HE : Hid (r = [63]) := Lib.hid (by rw [← HR.out]; unfold errT; rw [if_pos (Or.inl h1)])
    clear HR HRO
    go_wp2_with fail
    go_ret
    exact ⟨by rw [HE.out]; rfl, hbo⟩
  · by_cases h2 : 19 ≤ n
    · have HE : Hid (r = [63]) := Lib.hid (by rw [← HR.out]; unfold errT; rw [if_pos (Or.inr h2)])
      clear HR HRO
      go_wp2_with fail
      go_ret
      exact ⟨by rw [HE.out]; rfl, hbo⟩
    · obtain ⟨m, rfl⟩ : ∃ m : Nat, n = (m : Int) := ⟨n.toNat, by omega⟩
      have hm : m < 19 := by omega
      have hs : errL[m]? = some (errL[m]'hm) := List.getElem?_eq_getElem (l := errL) (i := m) hm
      have hE : errT (m : Int) = errL[m]'hm := by
        unfold errT
        rw [if_neg (by omega), Int.toNat_natCast, List.getD_eq_getElem?_getD, hs]; rfl
      have hcell : wo.cell? ⟨w.heap.size, m, none⟩ = some (.string (bs r)) := by
        have := HRO.out m _ (strs_at hs)
        rw [Nat.zero_add, ← hE, HR.out] at this; exact this
      clear hE HR hs HRO
      go_wp2_with fail
      go_ret
      exact ⟨rfl, hbo⟩
end Go.Proofs.Ytcphneofdjelpaa.W
