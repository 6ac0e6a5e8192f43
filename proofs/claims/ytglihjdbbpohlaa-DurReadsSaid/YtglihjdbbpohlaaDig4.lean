/- Contracts of the two readers of numbers. -/
import Derived.Test.YtglihjdbbpohlaaDig3
import Derived.Test.YtglihjdbbpohlaaPlD
import Derived.Lib.IndexBytes
namespace Go.Proofs.Ytglihjdbbpohlaa.W
open Go.RowKit Go.Proofs.Ytglihjdbbpohlaa.Pl

theorem cntE_in (l : List UInt8) (m : Int) : cntE l m = 0 ∨ cntE l m = 2 ∨ cntE l m = 3 ∨ cntE l m = 9 := by
  unfold cntE; split
  · exact .inr (.inl rfl)
  · split
    · exact .inr (.inr (.inl rfl))
    · split
      · exact .inr (.inr (.inr rfl))
      · exact .inl rfl
theorem bneT' {a b : Int} (h : a ≠ b) : (a != b) = true := bne_iff_ne.2 h
theorem bneF' {a b : Int} (h : a = b) : (a != b) = false := by rw [h]; simp

set_option maxRecDepth 100000 in
theorem kParse (s : ByteArray) (w : World) (hs : s.size ≤ 140737488355328) :
    Calls Try.prog 20 #[.string s] w fun e w' => e = .returned (.tuple #[.int .i64 (prsV s.data.toList), .int .i64 (prsE s.data.toList)]) ∧ w = w' := by
  by_cases h1 : s.size = 0
  · obtain rfl := empty_of_size s h1
    clear h1
    have HE : Hid (prsV (ByteArray.empty).data.toList = cntV (ByteArray.empty).data.toList 9007199254740992 ∧ prsE (ByteArray.empty).data.toList = cntE (ByteArray.empty).data.toList 9007199254740992) := Lib.hid ⟨rfl, rfl⟩
    go_enter Try.func20, Try.ntmps20
    go_wp2_with (go_at_call 65; ((with_reducible refine (kwhole _ _ _ hs (by omega) (by omega)).mono ?_); rintro e w' ⟨rfl, rfl⟩))
    go_ret2
    exact ⟨rfl, rfl⟩
  · have e0 : s.toList.isEmpty = false := toList_isEmpty s (by omega)
    have hp : 0 < s.size := by omega
    have hh := headD_pos s hp
    by_cases h2 : s[0] = 45
    · have e1 : ((s[0].toNat : Int) != 45) = false := bneF' (by rw [h2]; rfl)
      have hV := prsV_neg (hh.trans h2)
      have hE := prsE_neg (hh.trans h2)
      have hd : (s.extract 1 s.size).data.toList = s.data.toList.tail := by rw [Lib.extract_to_end, drop_one]
      rw [← hd] at hV hE
      have hsz : (s.extract 1 s.size).size ≤ 140737488355328 := by rw [ByteArray.size_extract]; omega
      have K := Lib.hid (fun w1 => kwhole (s.extract 1 s.size) 9007199254740992 w1 hsz (by omega) (by omega))
      have hb := cntV_bd (s.extract 1 s.size).data.toList 9007199254740992 (by omega)
      obtain ⟨hb1, hb2⟩ := hb
      generalize cntV (s.extract 1 s.size).data.toList 9007199254740992 = v at *
      generalize cntE (s.extract 1 s.size).data.toList 9007199254740992 = x at *
      have hc : ((x == 0) = true ∧ (v == 0) = true ∧ prsE s.data.toList = 3) ∨ (((x == 0) = false ∨ ((x == 0) = true ∧ (v == 0) = false)) ∧ prsE s.data.toList = x) := by
        by_cases hx : x = 0
        · by_cases hv : v = 0
          · exact .inl ⟨beqT hx, beqT hv, by rw [hE, if_pos ⟨hx, hv⟩]⟩
          · exact .inr ⟨.inr ⟨beqT hx, beqF hv⟩, by rw [hE, if_neg (fun h => hv h.2)]⟩
        · exact .inr ⟨.inl (beqF hx), by rw [hE, if_neg (fun h => hx h.1)]⟩
      have HV := Lib.hid hV
      clear hV hE hh h2 h1 hd
      rcases hc with ⟨t1, t2, hE⟩ | ⟨t1 | ⟨t1, t2⟩, hE⟩
      all_goals
        have HE := Lib.hid hE
        clear hE
        go_enter Try.func20, Try.ntmps20
        go_wp2_with (go_at_call 65; ((with_reducible refine (K.out _).mono ?_); rintro e w' ⟨rfl, rfl⟩))
        go_ret2
        exact ⟨ret2 HV.out.symm HE.out.symm, rfl⟩
    · have e1 : ((s[0].toNat : Int) != 45) = true := bneT' (fun e => h2 (UInt8.toNat_inj.1 (by have : (45 : UInt8).toNat = 45 := rfl; omega)))
      have HV := Lib.hid (prsV_pos (l := s.data.toList) (by rw [hh]; exact h2))
      have HE := Lib.hid (prsE_pos (l := s.data.toList) (by rw [hh]; exact h2))
      clear hh h2 h1
      go_enter Try.func20, Try.ntmps20
      go_wp2_with (go_at_call 65; ((with_reducible refine (kwhole _ _ _ hs (by omega) (by omega)).mono ?_); rintro e w' ⟨rfl, rfl⟩))
      go_ret2
      exact ⟨ret2 HV.out.symm HE.out.symm, rfl⟩
set_option maxRecDepth 100000 in
theorem kRefParse (s : ByteArray) (w : World) (hs : s.size ≤ 140737488355328) :
    Calls Try.prog 23 #[.string s] w fun e w' => e = .returned (.tuple #[.int .i64 (prsV s.data.toList), .int .i64 (prsE s.data.toList)]) ∧ w = w' := by
  by_cases h1 : s.size = 0
  · obtain rfl := empty_of_size s h1
    clear h1
    have HE : Hid (prsV (ByteArray.empty).data.toList = cntV (ByteArray.empty).data.toList 9007199254740992 ∧ prsE (ByteArray.empty).data.toList = cntE (ByteArray.empty).data.toList 9007199254740992) := Lib.hid ⟨rfl, rfl⟩
    go_enter Try.func23, Try.ntmps23
    go_wp2_with (go_at_call 24; ((with_reducible refine (kRefCount _ _ _ hs (by omega)).mono ?_); rintro e w' ⟨rfl, rfl⟩))
    go_ret2
    exact ⟨rfl, rfl⟩
  · have hp : 0 < s.size := by omega
    have hh := headD_pos s hp
    by_cases h2 : s[0] = 45
    · have e1 : ((s[0].toNat : Int) == 45) = true := beqT (by rw [h2]; rfl)
      have hV := prsV_neg (hh.trans h2)
      have hE := prsE_neg (hh.trans h2)
      have hd : (s.extract 1 s.size).data.toList = s.data.toList.tail := by rw [Lib.extract_to_end, drop_one]
      rw [← hd] at hV hE
      have hsz : (s.extract 1 s.size).size ≤ 140737488355328 := by rw [ByteArray.size_extract]; omega
      have K := Lib.hid (fun w1 => kRefCount (s.extract 1 s.size) 9007199254740992 w1 hsz (by omega))
      have hb := cntV_bd (s.extract 1 s.size).data.toList 9007199254740992 (by omega)
      obtain ⟨hb1, hb2⟩ := hb
      generalize cntV (s.extract 1 s.size).data.toList 9007199254740992 = v at *
      generalize cntE (s.extract 1 s.size).data.toList 9007199254740992 = x at *
      have hc : ((x == 0) = true ∧ (v == 0) = true ∧ prsE s.data.toList = 3 ∧ prsV s.data.toList = 0) ∨ (((x == 0) = false ∨ ((x == 0) = true ∧ (v == 0) = false)) ∧ prsE s.data.toList = x) := by
        by_cases hx : x = 0
        · by_cases hv : v = 0
          · exact .inl ⟨beqT hx, beqT hv, by rw [hE, if_pos ⟨hx, hv⟩], by rw [hV, hv]; rfl⟩
          · exact .inr ⟨.inr ⟨beqT hx, beqF hv⟩, by rw [hE, if_neg (fun h => hv h.2)]⟩
        · exact .inr ⟨.inl (beqF hx), by rw [hE, if_neg (fun h => hx h.1)]⟩
      have HV := Lib.hid hV
      clear hV hE hh h2 h1 hd
      rcases hc with ⟨t1, t2, hE, hV0⟩ | ⟨t1 | ⟨t1, t2⟩, hE⟩
      · skip
        have HE := Lib.hid hE
        have HV0 := Lib.hid hV0
        clear hE hV0
        go_enter Try.func23, Try.ntmps23
        go_wp2_with (go_at_call 24; ((with_reducible refine (K.out _).mono ?_); rintro e w' ⟨rfl, rfl⟩))
        go_ret2
        exact ⟨ret2 HV0.out.symm HE.out.symm, rfl⟩
      all_goals
        have HE := Lib.hid hE
        clear hE
        go_enter Try.func23, Try.ntmps23
        go_wp2_with (go_at_call 24; ((with_reducible refine (K.out _).mono ?_); rintro e w' ⟨rfl, rfl⟩))
        go_ret2
        exact ⟨ret2 HV.out.symm HE.out.symm, rfl⟩
    · have e1 : ((s[0].toNat : Int) == 45) = false := beqF (fun e => h2 (UInt8.toNat_inj.1 (by have : (45 : UInt8).toNat = 45 := rfl; omega)))
      have HV := Lib.hid (prsV_pos (l := s.data.toList) (by rw [hh]; exact h2))
      have HE := Lib.hid (prsE_pos (l := s.data.toList) (by rw [hh]; exact h2))
      clear hh h2 h1
      go_enter Try.func23, Try.ntmps23
      go_wp2_with (go_at_call 24; ((with_reducible refine (kRefCount _ _ _ hs (by omega)).mono ?_); rintro e w' ⟨rfl, rfl⟩))
      go_ret2
      exact ⟨ret2 HV.out.symm HE.out.symm, rfl⟩
end Go.Proofs.Ytglihjdbbpohlaa.W
