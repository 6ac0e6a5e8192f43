/- Contracts of the units of amounts. -/
import Derived.Test.YtglihjdbbpohlaaDig3
namespace Go.Proofs.Ytglihjdbbpohlaa.W
open Go.RowKit Go.Proofs.Ytglihjdbbpohlaa.Pl

/-- how many bytes a unit has; 0: it is none -/
def longOf (l : List UInt8) : Int := match unitOf l with | some u => 1024 ^ u | none => 0

theorem beqLF {a b : List UInt8} (h : a ≠ b) : (a == b) = false := beq_eq_false_iff_ne.2 h

theorem klongF (s : ByteArray) (w : World) (h : unitOf s.data.toList = none) :
    Calls Try.prog 61 #[.string s] w fun e w' => e = .returned (.int .i64 0) ∧ w = w' := by
  obtain ⟨h1, h2, h3, h4, h5, h6, h7, h8⟩ := unitOf_none h
  rw [← Lib.toList_data] at h1 h2 h3 h4 h5 h6 h7 h8
  have e1 : s.toList.isEmpty = false := by cases hx : s.toList with | nil => exact absurd hx h1 | cons a b => rfl
  have e2 := beqLF h2
  have e3 := beqLF h3
  have e4 := beqLF h4
  have e5 := beqLF h5
  have e6 := beqLF h6
  have e7 := beqLF h7
  have e8 := beqLF h8
  clear h
  go_enter Try.func61, Try.ntmps61
  go_wp2
  go_ret
  exact ⟨rfl, rfl⟩

theorem klongT (s : ByteArray) (w : World) (u : Nat) (h : unitOf s.data.toList = some u) :
    Calls Try.prog 61 #[.string s] w fun e w' => e = .returned (.int .i64 (1024 ^ u)) ∧ w = w' := by
  rcases unitOf_some h with ⟨g, rfl⟩ | ⟨g, rfl⟩ | ⟨g, rfl⟩ | ⟨g, rfl⟩ | ⟨g, rfl⟩ | ⟨g, rfl⟩ | ⟨g, rfl⟩ | ⟨g, rfl⟩
  all_goals
    obtain rfl := mk_of_data g
    clear h g
    go_enter Try.func61, Try.ntmps61
    go_wp2
    go_ret
    exact ⟨ret_int (by decide), rfl⟩

theorem extract_one (c d : UInt8) : (⟨#[c, d]⟩ : ByteArray).extract 0 1 = ⟨#[c]⟩ := by
  rw [ByteArray.extract_mk]; rfl

theorem kunitT (s : ByteArray) (w : World) (u : Nat) (h : unitOf s.data.toList = some u) :
    Calls Try.prog 60 #[.string s] w fun e w' => e = .returned (.tuple #[.int .i64 u, .bool true]) ∧ w = w' := by
  rcases unitOf_some h with ⟨g, rfl⟩ | ⟨g, rfl⟩ | ⟨g, rfl⟩ | ⟨g, rfl⟩ | ⟨g, rfl⟩ | ⟨g, rfl⟩ | ⟨g, rfl⟩ | ⟨g, rfl⟩
  all_goals
    obtain rfl := mk_of_data g
    clear h g
    have e1 := extract_one 107 98
    have e2 := extract_one 109 98
    have e3 := extract_one 103 98
    go_enter Try.func60, Try.ntmps60
    go_wp2
    go_ret2
    exact ⟨rfl, rfl⟩

theorem byteNe {c d : UInt8} (h : c ≠ d) : (c.toNat : Int) ≠ (d.toNat : Int) := fun e => h (UInt8.toNat_inj.1 (by omega))

set_option maxHeartbeats 400000 in
theorem kunitF (s : ByteArray) (w : World) (hs : s.size ≤ 140737488355328) (h : unitOf s.data.toList = none) :
    Calls Try.prog 60 #[.string s] w fun e w' => e = .returned (.tuple #[.int .i64 0, .bool false]) ∧ w = w' := by
  obtain ⟨h1, h2, h3, h4, h5, h6, h7, h8⟩ := unitOf_none h
  by_cases hx : s.size = 2 ∧ (∃ h : 1 < s.size, s[1] = 98 ∧ s[0] ≠ 98)
  · obtain ⟨hx, h', h9, h10⟩ := hx
    obtain ⟨c, d, rfl⟩ : ∃ c d, s = ⟨#[c, d]⟩ := by
      obtain ⟨⟨l⟩⟩ := s
      match l, hx with
      | [c, d], _ => exact ⟨c, d, rfl⟩
    have hd : d = 98 := h9
    have h11 : c ≠ 98 := h10
    clear h9 h10 h'
    subst hd
    have g1 : c ≠ 107 := by rintro rfl; exact h4 rfl
    have g2 : c ≠ 109 := by rintro rfl; exact h6 rfl
    have g3 : c ≠ 103 := by rintro rfl; exact h8 rfl
    have ex := extract_one c 98
    have e0 : ((⟨#[c, 98]⟩ : ByteArray)[0].toNat : Int) != 98 := by rw [bne_iff_ne]; exact byteNe h11
    have e2 : (c == 98) = false := beq_eq_false_iff_ne.2 h11
    have e3 : (c == 107) = false := beq_eq_false_iff_ne.2 g1
    have e4 : (c == 109) = false := beq_eq_false_iff_ne.2 g2
    have e5 : (c == 103) = false := beq_eq_false_iff_ne.2 g3
    clear h h1 h2 h3 h4 h5 h6 h7 h8 hs h11 g1 g2 g3
    go_enter Try.func60, Try.ntmps60
    go_wp2
    go_ret2
    exact ⟨rfl, rfl⟩
  · rw [← Lib.toList_data] at h1 h2 h3 h4 h5 h6 h7 h8
    have e1 : s.toList.isEmpty = false := by cases hx : s.toList with | nil => exact absurd hx h1 | cons a b => rfl
    have e2 := beqLF h2
    have e3 := beqLF h3
    have e4 := beqLF h4
    have e5 := beqLF h5
    have e6 := beqLF h6
    have e7 := beqLF h7
    have e8 := beqLF h8
    by_cases hy : s.size = 2
    · have e9 : ((s[1].toNat : Int) == 98) = false ∨ (((s[1].toNat : Int) == 98) = true ∧ ((s[0].toNat : Int) != 98) = false) := by
        by_cases ha : s[1] = 98
        · right
          have hb : s[0] = 98 := Decidable.byContradiction fun hb => hx ⟨hy, by omega, ha, hb⟩
          rw [ha, hb]; exact ⟨rfl, rfl⟩
        · exact .inl (beqF (byteNe ha))
      have e0 : ((s.size : Int) == 2) = true := beqT (by omega)
      have hy' : 2 ≤ s.size := by omega
      clear h h1 h2 h3 h4 h5 h6 h7 h8 hx
      rcases e9 with e9 | ⟨e9, e10⟩
      all_goals
        go_enter Try.func60, Try.ntmps60
        go_wp2
        go_ret2
        exact ⟨rfl, rfl⟩
    · have e0 : ((s.size : Int) == 2) = false := beqF (by omega)
      clear h h1 h2 h3 h4 h5 h6 h7 h8 hx hy
      go_enter Try.func60, Try.ntmps60
      go_wp2
      go_ret2
      exact ⟨rfl, rfl⟩

end Go.Proofs.Ytglihjdbbpohlaa.W
