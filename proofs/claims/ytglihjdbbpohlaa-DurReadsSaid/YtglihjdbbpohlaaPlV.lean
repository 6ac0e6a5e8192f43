/- Plain laws on the texts of spans; no program in sight. -/
import Derived.Test.YtglihjdbbpohlaaPlU
namespace Go.Proofs.Ytglihjdbbpohlaa.Pl

/-- a group; none, if the number is 0 -/
def grp (k : Nat) (u : List UInt8) : List UInt8 := if k = 0 then [] else dec k ++ u
theorem grp_zero {k : Nat} (u : List UInt8) (h : k = 0) : grp k u = [] := by unfold grp; rw [if_pos h]
theorem grp_pos {k : Nat} (u : List UInt8) (h : k ≠ 0) : grp k u = dec k ++ u := by unfold grp; rw [if_neg h]
def tl3 (v : Nat) : List UInt8 := grp v [109, 115]
def tl2 (v : Nat) : List UInt8 := grp (v / 1000) [115] ++ tl3 (v % 1000)
def tl1 (v : Nat) : List UInt8 := grp (v / 60000) [109] ++ tl2 (v % 60000)
def tl0 (v : Nat) : List UInt8 := grp (v / 3600000) [104] ++ tl1 (v % 3600000)
/-- what is still to be written before the k-th unit -/
def tlK (k v : Nat) : List UInt8 := if k = 0 then tl0 v else if k = 1 then tl1 v else if k = 2 then tl2 v else if k = 3 then tl3 v else []
/-- a span's short text -/
def durT (n : Int) : List UInt8 := if n < 0 ∨ 1099511627776 < n then [] else if n = 0 then [48, 115] else tl0 n.toNat
theorem durT_out {n : Int} (h : n < 0 ∨ 1099511627776 < n) : durT n = [] := by unfold durT; rw [if_pos h]
theorem durT_zero : durT 0 = [48, 115] := by unfold durT; rw [if_neg (by omega), if_pos rfl]
theorem durT_pos {n : Nat} (h : n ≠ 0) (h2 : n ≤ 1099511627776) : durT n = tl0 n := by unfold durT; rw [if_neg (by omega), if_neg (by omega), Int.toNat_natCast]
theorem dec_len40 {v : Nat} (h : v ≤ 1099511627776) : (dec v).length ≤ 13 := dec_len_le 13 v (by omega) (by decide)

end Go.Proofs.Ytglihjdbbpohlaa.Pl
