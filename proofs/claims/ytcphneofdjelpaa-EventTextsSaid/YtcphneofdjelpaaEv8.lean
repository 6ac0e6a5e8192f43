/- The closure that adds words. -/
import Derived.Test.YtcphneofdjelpaaEv7
namespace Go.Proofs.Ytcphneofdjelpaa.W
open Go.RowKit Go.Proofs.Ytcphneofdjelpaa.Pl

theorem infoStr : (Try.prog.info? 9).map (fun i => (i.zero.map fun z => z.cells.size, i.size, i.bytes)) = some (some 1, 1, 16) := by kernel_rfl
theorem setCell_heap_same {w : World} {g : Nat} {v u : Go.Value} {t : TypeId} (h : w.heap[g]? = some (.cells #[v] t (0, 0))) : (w.setCell ⟨g, 0, none⟩ u).heap[g]? = some (.cells #[u] t (0, 0)) := by
  simp [World.setCell, Array.getElem?_modify, h]
theorem own_setCell {w : World} {base : Nat} {e : TypeId} {size n : Nat} {v : Go.Value} {xs : List Go.Value} {g : Nat} {u : Go.Value} (h : w.ownsRow base e size v n xs) (hg : v.ownBlock ≠ some g) : (w.setCell ⟨g, 0, none⟩ u).ownsRow base e size v n xs :=
  h.kept (row := some g) ⟨rfl, rfl, rfl, by simp [World.setCell], fun i _ hne => Below.heap_setCell w ⟨g, 0, none⟩ u i (fun e => hne (by rw [e]))⟩ (.inr hg)
theorem own_ne {w : World} {base : Nat} {e t : TypeId} {size n : Nat} {v : Go.Value} {xs : List Go.Value} {g : Nat} {C : Array Go.Value} {fr : Nat × Nat} (h : w.ownsRow base e size v n xs) (hg : w.heap[g]? = some (.cells C t fr)) (hne : t ≠ e) : v.ownBlock ≠ some g := by
  rcases h.2 with ⟨rfl, _⟩ | ⟨g', cap, cur, rfl, _, hg', _⟩
  · simp [Go.Value.ownBlock]
  · intro e1
    simp only [Go.Value.ownBlock, Option.some.injEq] at e1
    subst e1
    rw [hg'] at hg
    injection hg with hg
    injection hg with _ hg
    exact hne hg.symm

set_option maxRecDepth 100000 in
set_option maxHeartbeats 2000000 in
theorem kAdd (B g b2 n m c : Nat) (v : Go.Value) (xs news : List Go.Value) (w : World) (hB : B ≤ g) (hg : w.heap[g]? = some (.cells #[v] 27 (0, 0))) (hown : w.ownsRow B 9 1 v n xs)
    (hl : news.length = m) (hm : 0 < m) (hm2 : n + m ≤ 100) (hnews : ∀ j u, news[j]? = some u → w.cell? ⟨b2, j, none⟩ = some u) (h1 : ∀ u ∈ news, u.oneCell' = true) :
    Calls Try.prog 26 #[.slice (some ⟨b2, 0, none⟩) m c, .pointer (some ⟨g, 0, none⟩)] w fun e w' => e = .returned (.tuple #[]) ∧ ∃ v', w'.heap[g]? = some (.cells #[v'] 27 (0, 0)) ∧ w'.ownsRow B 9 1 v' (n + m) (xs ++ news) ∧ Below B w w' ∧ w.heap.size ≤ w'.heap.size := by
  obtain ⟨iC, zC, hiC, hzC, hcC, hsC, hbC⟩ := info_parts' infoStr
  have hglt : g < w.heap.size := by
    rcases Nat.lt_or_ge g w.heap.size with h | h
    · exact h
    · rw [Array.getElem?_eq_none h] at hg; cases hg
  have hne := own_ne hown hg (by decide)
  have HG := Lib.hid hg
  have HO := Lib.hid hown
  have HNW := Lib.hid hnews
  have H1 := Lib.hid h1
  have HNE := Lib.hid hne
  have hcell : w.cell? ⟨g, 0, none⟩ = some v := by rw [cell_of_row w g 0 _ _ _ hg]; rfl
  have hfz : w.frozen? ⟨g, 0, none⟩ = false := by simp [World.frozen?, hg]
  have hmx : n + m ≤ maxLen := by unfold maxLen; omega
  clear hg hown hnews h1 hne
  go_enter Try.func26, Try.ntmps26
  go_wp2_with (first
    | (at_builtin; go_must (refine wpList_append_lies _ rfl _ _ 27 rfl B 9 iC zC 1 16 Try.underlying27 hiC hzC hsC hbC hcC (by decide) v _ _ rfl HO.out ⟨b2, 0, none⟩ m c news rfl (by omega) (by intro j u hu; have := HNW.out j u hu; rwa [← show (⟨b2, 0, none⟩ : Addr).add j = ⟨b2, j, none⟩ by unfold Addr.add; split <;> simp_all] at this) H1.out hm hmx (by omega) (by omega) w.heap.size rfl ?_); intro g1 cap1 w3 hown3 hgrow hat hlt3; have hc3 : w3.cell? ⟨g, 0, none⟩ = some v := (hgrow.cell_far ⟨g, 0, none⟩ hglt (fun e => HNE.out e.symm)).trans hcell; have hf3 : w3.frozen? ⟨g, 0, none⟩ = false := (hgrow.frozen_far ⟨g, 0, none⟩ hglt (fun e => HNE.out e.symm)).trans hfz))
  have hg3 : w3.heap[g]? = some (.cells #[v] 27 (0, 0)) := (hgrow.block g hglt (fun e => HNE.out e.symm)).trans HG.out
  have hne3 : (Go.Value.slice (some ⟨g1, 0, none⟩) (n + m) cap1).ownBlock ≠ some g := own_ne hown3 hg3 (by decide)
  have hb3 : Below B w w3 := (Below.refl B w).grown hgrow (by omega) (fun g hg => (HO.out.lt g hg).1)
  have hsz := hgrow.size
  go_end0
  exact ⟨rfl, _, setCell_heap_same hg3, own_setCell hown3 hne3, hb3.setCell hB _, by simp [World.setCell]; exact hsz⟩
end Go.Proofs.Ytcphneofdjelpaa.W
