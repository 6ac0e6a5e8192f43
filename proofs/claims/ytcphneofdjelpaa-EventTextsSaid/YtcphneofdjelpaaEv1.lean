/- Notes as they lie in memory; the copies. -/
import Derived.Test.YtcphneofdjelpaaTxt2
import Derived.Deep.AppendLies
import Derived.Deep.RegionHeld3
import Derived.OwnWalk
import Derived.Deep.MidRow
import Derived.Deep.DeepCutAuto
import Derived.Deep.DeepMust
namespace Go.Proofs.Ytcphneofdjelpaa.W
open Go.RowKit Go.Proofs.Ytcphneofdjelpaa.Pl

/-- a note -/
structure NV where
  a0 : Int
  kind : Int
  proj : ByteArray
  ck : Int
  cn : ByteArray
  ci : Int
  s0 : ByteArray
  s1 : ByteArray
  s2 : ByteArray
  s3 : Int
  s4 : ByteArray
  na : Option Addr
  nl : Nat
  nc : Nat
  va : Option Addr
  vl : Nat
  vc : Nat
  h0 : ByteArray
  h1 : Int
  h2 : Int
  h3 : Int
  rs : Int
  tr : Int
  id : Int
  what : Int
  e : Int

/-- its call's cells -/
def NV.call (n : NV) : List Go.Value := [.int .i64 n.ck, .string n.cn, .int .i64 n.ci, .string n.s0, .string n.s1, .string n.s2, .int .i64 n.s3, .string n.s4, .slice n.na n.nl n.nc, .slice n.va n.vl n.vc, .string n.h0, .int .i64 n.h1, .int .i64 n.h2, .int .i64 n.h3, .int .i64 n.rs, .int .i64 n.tr]
/-- its cells -/
def NV.cells (n : NV) : List Go.Value := [.int .i64 n.a0, .int .i64 n.kind, .string n.proj, .int .i64 n.ck, .string n.cn, .int .i64 n.ci, .string n.s0, .string n.s1, .string n.s2, .int .i64 n.s3, .string n.s4, .slice n.na n.nl n.nc, .slice n.va n.vl n.vc, .string n.h0, .int .i64 n.h1, .int .i64 n.h2, .int .i64 n.h3, .int .i64 n.rs, .int .i64 n.tr, .int .i64 n.id, .int .i64 n.what, .int .i64 n.e]
theorem NV.len (n : NV) : n.cells.length = 22 := rfl
theorem NV.size (n : NV) : n.cells.toArray.size = 22 := rfl
theorem NV.one (n : NV) : ∀ v ∈ n.cells, v.oneCell' = true := by
  intro v hv
  simp only [NV.cells, List.mem_cons, List.not_mem_nil, or_false] at hv
  rcases hv with rfl | rfl | rfl | rfl | rfl | rfl | rfl | rfl | rfl | rfl | rfl | rfl | rfl | rfl | rfl | rfl | rfl | rfl | rfl | rfl | rfl | rfl
  all_goals rfl
/-- a row of notes in memory -/
def NRow (w : World) (v : Go.Value) (xs : List NV) : Prop := ∃ A cap, v = .slice A xs.length cap ∧ xs.length ≤ cap ∧ cap ≤ maxLen ∧ (0 < xs.length → ∃ b off, A = some ⟨b, off, none⟩ ∧ b < w.heap.size ∧ ∀ i x, xs[i]? = some x → w.rangeAt b (off + i * 22) x.cells)
theorem NRow.keep {w w' : World} {v : Go.Value} {xs : List NV} (hb : Below w.heap.size w w') (h : NRow w v xs) : NRow w' v xs := by
  obtain ⟨A, cap, rfl, h1, h2, h3⟩ := h
  refine ⟨A, cap, rfl, h1, h2, fun h0 => ?_⟩
  obtain ⟨b, off, rfl, hlt, hr⟩ := h3 h0
  exact ⟨b, off, rfl, Nat.lt_of_lt_of_le hlt hb.size, fun i x hx j u hu => (hb.cell (p := ⟨b, off + i * 22 + j, none⟩) hlt).trans (hr i x hx j u hu)⟩
/-- all cells, one note after the other -/
def flat (xs : List NV) : List Go.Value := xs.flatMap NV.cells
theorem flat_len (xs : List NV) : (flat xs).length = xs.length * 22 := by
  induction xs with
  | nil => rfl
  | cons x r ih => rw [flat, List.flatMap_cons, List.length_append, NV.len, List.length_cons]; unfold flat at ih; omega
theorem flat_snoc (xs : List NV) (x : NV) : flat (xs ++ [x]) = flat xs ++ x.cells := by simp [flat]
theorem flat_get (xs : List NV) : ∀ (i : Nat) (x : NV), xs[i]? = some x → ∀ j, j < 22 → (flat xs)[i * 22 + j]? = x.cells[j]? := by
  induction xs with
  | nil => intro i x h; simp at h
  | cons y r ih =>
    intro i x h j hj
    have e : flat (y :: r) = y.cells ++ flat r := by simp [flat]
    rw [e]
    match i with
    | 0 =>
      simp only [List.getElem?_cons_zero, Option.some.injEq] at h
      subst h
      rw [Nat.zero_mul, Nat.zero_add, List.getElem?_append_left (by rw [NV.len]; exact hj)]
    | i + 1 =>
      rw [List.getElem?_cons_succ] at h
      rw [List.getElem?_append_right (by rw [NV.len]; omega), NV.len, show (i + 1) * 22 + j - 22 = i * 22 + j by omega]
      exact ih i x h j hj
theorem own_below5 {w w' : World} {base : Nat} {e : TypeId} {size n : Nat} {v : Go.Value} {xs : List Go.Value} (h : w.ownsRow base e size v n xs) (hb : Below w.heap.size w w') : w'.ownsRow base e size v n xs := by
  refine h.kept (row := none) ⟨hb.os, hb.tape, hb.output, hb.size, fun i hi _ => hb.block i hi⟩ ?_
  cases v.ownBlock with
  | none => exact .inl rfl
  | some x => exact .inr (by simp)
/-- an owned row is a row -/
theorem NRow.of {w : World} {base : Nat} {e : TypeId} {v : Go.Value} {xs : List NV} (h : w.ownsRow base e 22 v xs.length (flat xs)) : NRow w v xs := by
  rcases h.2 with ⟨rfl, h0⟩ | ⟨g, cap, cur, rfl, hb, hg, hc⟩
  · refine ⟨none, 0, by rw [h0], by omega, by unfold maxLen; omega, fun h => absurd h (by omega)⟩
  · refine ⟨some ⟨g, 0, none⟩, cap, rfl, hc.1, hc.2.1, fun h0 => ⟨g, 0, rfl, ?_, fun i x hx j u hu => ?_⟩⟩
    · rcases Nat.lt_or_ge g w.heap.size with hlt | hge
      · exact hlt
      · rw [Array.getElem?_eq_none hge] at hg; cases hg
    · have hj : j < 22 := by have := (List.getElem?_eq_some_iff.1 hu).1; rwa [NV.len] at this
      have hi : i < xs.length := (List.getElem?_eq_some_iff.1 hx).1
      rw [Nat.zero_add, h.cellAt _ (by omega), flat_get xs i x hx j hj, hu]
theorem there_new (w : World) (Z : Array Go.Value) (t : TypeId) {n : Nat} (hn : n ≤ Z.size) : (w.alloc (.cells Z t)).there w.heap.size 0 n := fun j hj => by
  refine ⟨?_, ?_⟩
  · rw [World.cell?_alloc_at _ _ _ _ rfl]
    rw [Nat.zero_add, Array.getElem?_eq_getElem (by omega)]; rfl
  · exact World.frozen?_alloc_new _ _ _ _
theorem setCells_block {b : Nat} : ∀ (vs : List Go.Value) (o : Nat) (w : World) {i : Nat}, i ≠ b → (w.setCells b o vs).heap[i]? = w.heap[i]?
  | [], _, _, _, _ => rfl
  | v :: r, o, w, i, h => by rw [World.setCells, setCells_block r (o + 1) _ h]; exact Below.heap_setCell w ⟨b, o, none⟩ v i h
theorem setCells_size {b : Nat} : ∀ (vs : List Go.Value) (o : Nat) (w : World), (w.setCells b o vs).heap.size = w.heap.size
  | [], _, _ => rfl
  | v :: r, o, w => by rw [World.setCells, setCells_size r (o + 1)]; simp [World.setCell]
theorem below_setCells {b B : Nat} {a : World} : ∀ (vs : List Go.Value) (o : Nat) (w : World), Below B a w → B ≤ b → Below B a (w.setCells b o vs)
  | [], _, _, h, _ => h
  | v :: r, o, w, h, hb => by rw [World.setCells]; exact below_setCells r (o + 1) _ (h.setCell hb v) hb
theorem grown_setCells (w : World) (b o : Nat) (vs : List Go.Value) : w.grownBy (w.setCells b o vs) (some b) := by
  have h := below_setCells (B := 0) vs o w (Below.refl 0 w) (Nat.zero_le b)
  exact ⟨h.os, h.tape, h.output, by rw [setCells_size]; exact Nat.le_refl _, fun i _ hne => setCells_block vs o w (fun e => hne (by rw [e]))⟩
theorem take_snoc {α : Type} {xs : List α} {k : Nat} {x : α} (h : xs[k]? = some x) : xs.take (k + 1) = xs.take k ++ [x] := by
  rw [List.take_add_one, h]; rfl

theorem infoN : (Try.prog.info? 40).map (fun i => (i.zero.map fun z => z.cells.size, i.size, i.bytes)) = some (some 22, 22, 264) := by kernel_rfl
theorem infoRN : (Try.prog.info? 36).map (fun i => (i.zero.map fun z => z.cells.size, i.size, i.bytes)) = some (some 22, 22, 264) := by kernel_rfl
theorem info_parts' {P : Program} {t : TypeId} {c n b : Nat} (h : (P.info? t).map (fun i => (i.zero.map fun z => z.cells.size, i.size, i.bytes)) = some (some c, n, b)) : ∃ i z, P.info? t = some i ∧ i.zero = some z ∧ z.cells.size = c ∧ i.size = n ∧ i.bytes = b := by
  cases hi : P.info? t with
  | none => rw [hi] at h; cases h
  | some i =>
    rw [hi] at h
    simp only [Option.map_some, Option.some.injEq, Prod.mk.injEq] at h
    obtain ⟨h1, h2, h3⟩ := h
    cases hz : i.zero with
    | none => rw [hz] at h1; cases h1
    | some z => rw [hz] at h1; exact ⟨i, z, rfl, hz, by simpa using h1, h2, h3⟩

set_option maxRecDepth 100000 in
set_option maxHeartbeats 4000000 in
theorem kMine (v : Go.Value) (xs : List NV) (w : World) (hn : xs.length ≤ 60) (hr : NRow w v xs) :
    Calls Try.prog 7 #[v] w fun e w' => ∃ u, e = .returned u ∧ w'.ownsRow w.heap.size 40 22 u xs.length (flat xs) ∧ Below w.heap.size w w' := by
  obtain ⟨A, cap, rfl, hcap, hcap2, hcell⟩ := hr
  unfold maxLen at hcap2
  have HL := Lib.hid hcell
  clear hcell
  obtain ⟨iC, zC, hiC, hzC, hcC, hsC, hbC⟩ := info_parts' infoN
  obtain ⟨n, hnn⟩ : ∃ n, xs.length = n := ⟨_, rfl⟩
  have HN := Lib.hid hnn
  rw [hnn] at hn hcap HL ⊢
  clear hnn
  go_enter Try.func7, Try.ntmps7
  go_wp2_with fail
  go_loopw [3, 4] (fun s i wr => ∃ (k : Nat) (va : Go.Value), k ≤ n ∧ va = s ∧ i = .int .i64 k ∧ Hid (wr.ownsRow w.heap.size 40 22 va k (flat (xs.take k))) ∧ Below w.heap.size w wr) (fun _ i _ => n - (intOf i).toNat)
  case atStart => exact ⟨0, _, Nat.zero_le _, rfl, rfl, Lib.hid (World.ownsRow_nil _ _ _ _), Below.refl _ _⟩
  case round =>
    obtain ⟨k, va, hk, rfl, rfl, HA, hbl⟩ := hrel
    by_cases hlt : k < n
    · obtain ⟨b, off, rfl, hb, hL⟩ := HL.out (by omega)
      obtain ⟨x, hx⟩ : ∃ x, xs[k]? = some x := ⟨_, List.getElem?_eq_getElem (by have := HN.out; omega)⟩
      have hrange : wr.rangeAt b (off + k * 22) x.cells := fun j v hv => (hbl.cell (p := ⟨b, off + k * 22 + j, none⟩) hb).trans (hL k x hx j v hv)
      have hinfo : (Try.prog.info? 36).map (·.size) = some x.cells.length := by rw [NV.len]; kernel_rfl
      have HRg := Lib.hid hrange
      have HI := Lib.hid hinfo
      have H1 := Lib.hid x.one
      have HX := Lib.hid hx
      have H22 := Lib.hid x.len
      have HF := Lib.hid (show flat (xs.take (k + 1)) = flat (xs.take k) ++ x.cells by rw [take_snoc hx, flat_snoc])
      clear hL hrange hinfo hx
      dsimp only [NV.cells] at HRg HI
      have hsz := hbl.size
      have hmx : k + 1 ≤ maxLen := by unfold maxLen; omega
      go_wp2_with (first
        | (with_reducible refine wpList_load_mid rfl 36 _ rfl b (off + k * 22) rfl _ _ HRg.out Try.underlying36 rfl HI.out ?_)
        | (at_builtin; refine wpList_append_lies _ rfl _ _ 25 rfl w.heap.size 40 iC zC 22 264 Try.underlying25 hiC hzC hsC hbC hcC (by decide) va _ _ rfl (HA.out.alloc _) ⟨wr.heap.size, 0, none⟩ 1 1 x.cells rfl rfl (World.news_of_block (cs := x.cells.toArray) (t := 40) (fr := (0, 0)) (heap_alloc_new wr _)) H1.out (by decide) hmx (by omega) (by simp; omega) (wr.heap.size + 1) (by simp) ?_; intro g1 cap1 w3 hown hgrow hat hlt3))
      have hb3 : Below w.heap.size w w3 := (hbl.alloc hsz _).grown hgrow (by simp; omega) (fun g hg => (HA.out.lt g hg).1)
      have HA3 : Hid (w3.ownsRow w.heap.size 40 22 (.slice (some ⟨g1, 0, none⟩) (k + 1) cap1) (k + 1) (flat (xs.take (k + 1)))) := Lib.hid (by rw [HF.out]; exact hown)
      exact ⟨⟨k + 1, _, by omega, rfl, by go_num, HA3, hb3⟩, by simp [intOf]; omega⟩
    · have hkn : xs.take k = xs := List.take_of_length_le (by have := HN.out; omega)
      have HA2 : Hid (wr.ownsRow w.heap.size 40 22 va n (flat xs)) := Lib.hid (by have := HA.out; rwa [hkn, show k = n by omega] at this)
      clear HA hkn
      go_wp2_with fail
      go_ret
      exact ⟨_, rfl, HA2.out, hbl⟩

set_option maxRecDepth 100000 in
set_option maxHeartbeats 4000000 in
theorem kNotes (v : Go.Value) (xs : List NV) (w : World) (hn : xs.length ≤ 60) (hr : NRow w v xs) :
    Calls Try.prog 12 #[v] w fun e w' => ∃ u, e = .returned u ∧ w'.ownsRow w.heap.size 36 22 u xs.length (flat xs) ∧ Below w.heap.size w w' := by
  obtain ⟨A, cap, rfl, hcap, hcap2, hcell⟩ := hr
  unfold maxLen at hcap2
  have HL := Lib.hid hcell
  clear hcell
  obtain ⟨iC, zC, hiC, hzC, hcC, hsC, hbC⟩ := info_parts' infoRN
  obtain ⟨n, hnn⟩ : ∃ n, xs.length = n := ⟨_, rfl⟩
  have HN := Lib.hid hnn
  rw [hnn] at hn hcap HL ⊢
  clear hnn
  go_enter Try.func12, Try.ntmps12
  go_wp2_with fail
  go_loopw [3, 4] (fun s i wr => ∃ (k : Nat) (va : Go.Value), k ≤ n ∧ va = s ∧ i = .int .i64 k ∧ Hid (wr.ownsRow w.heap.size 36 22 va k (flat (xs.take k))) ∧ Below w.heap.size w wr) (fun _ i _ => n - (intOf i).toNat)
  case atStart => exact ⟨0, _, Nat.zero_le _, rfl, rfl, Lib.hid (World.ownsRow_nil _ _ _ _), Below.refl _ _⟩
  case round =>
    obtain ⟨k, va, hk, rfl, rfl, HA, hbl⟩ := hrel
    by_cases hlt : k < n
    · obtain ⟨b, off, rfl, hb, hL⟩ := HL.out (by omega)
      obtain ⟨x, hx⟩ : ∃ x, xs[k]? = some x := ⟨_, List.getElem?_eq_getElem (by have := HN.out; omega)⟩
      have hrange : wr.rangeAt b (off + k * 22) x.cells := fun j v hv => (hbl.cell (p := ⟨b, off + k * 22 + j, none⟩) hb).trans (hL k x hx j v hv)
      have hinfo : (Try.prog.info? 40).map (·.size) = some x.cells.length := by rw [NV.len]; kernel_rfl
      have HRg := Lib.hid hrange
      have HI := Lib.hid hinfo
      have H1 := Lib.hid x.one
      have HX := Lib.hid hx
      have H22 := Lib.hid x.len
      have HF := Lib.hid (show flat (xs.take (k + 1)) = flat (xs.take k) ++ x.cells by rw [take_snoc hx, flat_snoc])
      clear hL hrange hinfo hx
      dsimp only [NV.cells] at HRg HI
      have hsz := hbl.size
      have hmx : k + 1 ≤ maxLen := by unfold maxLen; omega
      go_wp2_with (first
        | (with_reducible refine wpList_load_mid rfl 40 _ rfl b (off + k * 22) rfl _ _ HRg.out Try.underlying40 rfl HI.out ?_)
        | (at_builtin; refine wpList_append_lies _ rfl _ _ 22 rfl w.heap.size 36 iC zC 22 264 Try.underlying22 hiC hzC hsC hbC hcC (by decide) va _ _ rfl (HA.out.alloc _) ⟨wr.heap.size, 0, none⟩ 1 1 x.cells rfl rfl (World.news_of_block (cs := x.cells.toArray) (t := 36) (fr := (0, 0)) (heap_alloc_new wr _)) H1.out (by decide) hmx (by omega) (by simp; omega) (wr.heap.size + 1) (by simp) ?_; intro g1 cap1 w3 hown hgrow hat hlt3))
      have hb3 : Below w.heap.size w w3 := (hbl.alloc hsz _).grown hgrow (by simp; omega) (fun g hg => (HA.out.lt g hg).1)
      have HA3 : Hid (w3.ownsRow w.heap.size 36 22 (.slice (some ⟨g1, 0, none⟩) (k + 1) cap1) (k + 1) (flat (xs.take (k + 1)))) := Lib.hid (by rw [HF.out]; exact hown)
      exact ⟨⟨k + 1, _, by omega, rfl, by go_num, HA3, hb3⟩, by simp [intOf]; omega⟩
    · have hkn : xs.take k = xs := List.take_of_length_le (by have := HN.out; omega)
      have HA2 : Hid (wr.ownsRow w.heap.size 36 22 va n (flat xs)) := Lib.hid (by have := HA.out; rwa [hkn, show k = n by omega] at this)
      clear HA hkn
      go_wp2_with fail
      go_ret
      exact ⟨_, rfl, HA2.out, hbl⟩
end Go.Proofs.Ytcphneofdjelpaa.W
