/- The walk of BurdenAdds. -/
import Derived.Test.YtglihjdbbpohlaaBur1b
import Derived.Test.YtglihjdbbpohlaaBur2
import Derived.Deep.AppendLies
import Derived.Deep.RegionHeld3
import Derived.OwnWalk
import Derived.Deep.DeepCutAuto
namespace Go.Proofs.Ytglihjdbbpohlaa.W
open Go.RowKit Go.Proofs.Ytglihjdbbpohlaa.Pl

theorem infoC : (Try.prog.info? 36).map (fun i => (i.zero, i.size, i.bytes)) = some (some (.complex .f64 0 0), 1, 16) := by kernel_rfl
theorem infoB : (Try.prog.info? 38).map (fun i => (i.zero, i.size, i.bytes)) = some (some (.agg #[.int .i64 0, .int .i64 0]), 2, 16) := by kernel_rfl
/-- two rows of different types are two blocks -/
theorem own_ne {w : World} {base base' : Nat} {e e' : TypeId} {size size' n n' : Nat} {v v' : Go.Value} {xs xs' : List Go.Value} (h : w.ownsRow base e size v n xs) (h' : w.ownsRow base' e' size' v' n' xs') (hne : e ≠ e') :
    v'.ownBlock = none ∨ v'.ownBlock ≠ v.ownBlock := by
  rcases h.2 with ⟨rfl, _⟩ | ⟨g, cap, cur, rfl, _, hg, _⟩
  · rcases h'.2 with ⟨rfl, _⟩ | ⟨g', cap', cur', rfl, _, hg', _⟩
    · exact .inl rfl
    · exact .inr (by simp [Go.Value.ownBlock])
  · rcases h'.2 with ⟨rfl, _⟩ | ⟨g', cap', cur', rfl, _, hg', _⟩
    · exact .inl rfl
    · refine .inr fun e1 => hne ?_
      simp only [Go.Value.ownBlock, Option.some.injEq] at e1
      subst e1
      rw [hg] at hg'
      injection hg' with hg'
      injection hg'
theorem own_below {w w' : World} {base : Nat} {e : TypeId} {size n : Nat} {v : Go.Value} {xs : List Go.Value} (h : w.ownsRow base e size v n xs) (hb : Below w.heap.size w w') : w'.ownsRow base e size v n xs := by
  refine h.kept (row := none) ⟨hb.os, hb.tape, hb.output, hb.size, fun i hi _ => hb.block i hi⟩ ?_
  cases v.ownBlock with
  | none => exact .inl rfl
  | some x => exact .inr (by simp)
theorem keep2c {P : Program} {f : FuncId} {args : Array Go.Value} {w : World} {v : Go.Value} {x y : Addr} {u t : Go.Value} (h : Calls P f args w fun e w' => e = .returned v ∧ Below w.heap.size w w') (hxy : w.cell? x = some u ∧ w.cell? y = some t) :
    Calls P f args w fun e w' => e = .returned v ∧ Below w.heap.size w w' ∧ w'.cell? x = some u ∧ w'.cell? y = some t := keep2 h x y u t hxy.1 hxy.2
theorem keep4 {P : Program} {f : FuncId} {args : Array Go.Value} {w : World} {v : Go.Value} {x y x' y' : Addr} {u t u' t' : Go.Value} (h : Calls P f args w fun e w' => e = .returned v ∧ Below w.heap.size w w') (hxy : w.cell? x = some u ∧ w.cell? y = some t ∧ w.cell? x' = some u' ∧ w.cell? y' = some t') :
    Calls P f args w fun e w' => e = .returned v ∧ Below w.heap.size w w' ∧ (w'.cell? x = some u ∧ w'.cell? y = some t ∧ w'.cell? x' = some u' ∧ w'.cell? y' = some t') :=
  h.mono fun _ _ ⟨he, hb⟩ => ⟨he, hb, (hb.cell (World.block_lt_of_cell? _ _ hxy.1)).trans hxy.1, (hb.cell (World.block_lt_of_cell? _ _ hxy.2.1)).trans hxy.2.1, (hb.cell (World.block_lt_of_cell? _ _ hxy.2.2.1)).trans hxy.2.2.1, (hb.cell (World.block_lt_of_cell? _ _ hxy.2.2.2)).trans hxy.2.2.2⟩
theorem bcell28 {W w1 : World} (hb : Below W.heap.size W w1) : (∀ b o, b < W.heap.size → w1.cell? ⟨b, o, none⟩ = W.cell? ⟨b, o, none⟩) ∧ (∀ b o, b < W.heap.size → w1.frozen? ⟨b, o, none⟩ = W.frozen? ⟨b, o, none⟩) :=
  ⟨fun b o h => hb.cell (p := ⟨b, o, none⟩) h, fun b o h => hb.frozen (p := ⟨b, o, none⟩) h⟩
/-- the burden of a pair -/
def cx (c m : Nat → Int) (i : Nat) : Go.Value := .complex .f64 (floatOfInt .f64 (nearM (c i))) (floatOfInt .f64 (nearM (m i)))
def rowC (c m : Nat → Int) (k : Nat) : List Go.Value := (List.range k).map (cx c m)
def rowB (c m : Nat → Int) (k : Nat) : List Go.Value := (List.range k).flatMap fun i => [.int .i64 (nearM (c i)), .int .i64 (nearM (m i))]
theorem rowC_succ (c m : Nat → Int) (k : Nat) : rowC c m (k + 1) = rowC c m k ++ [cx c m k] := by unfold rowC; rw [List.range_succ, List.map_append]; rfl
theorem rowB_succ (c m : Nat → Int) (k : Nat) : rowB c m (k + 1) = rowB c m k ++ [.int .i64 (nearM (c k)), .int .i64 (nearM (m k))] := by unfold rowB; rw [List.range_succ, List.flatMap_append]; simp

/-- what the reading of the limit leaves -/
def AfterLim (w W : World) (B2 B3 : Nat) (S1 S2 P1 P2 : Int) : Prop :=
  W.cell? ⟨B3, 0, none⟩ = some (.int .i64 P1) ∧ W.cell? ⟨B3, 1, none⟩ = some (.int .i64 P2) ∧ W.cell? ⟨B2, 0, none⟩ = some (.int .i64 S1) ∧ W.cell? ⟨B2, 1, none⟩ = some (.int .i64 S2) ∧ Below w.heap.size w W
theorem lim_way1 {w V w3 : World} {B2 : Nat} {S1 S2 P1 P2 : Int} {T : TypeId} (hbV : Below w.heap.size w V) (hb3 : Below V.heap.size V w3) (hy1 : V.cell? ⟨B2, 0, none⟩ = some (.int .i64 S1)) (hy2 : V.cell? ⟨B2, 1, none⟩ = some (.int .i64 S2)) :
    AfterLim w (w3.alloc (.cells #[.int .i64 P1, .int .i64 P2] T)) B2 w3.heap.size S1 S2 P1 P2 := by
  have hlt : B2 < V.heap.size := World.block_lt_of_cell? _ _ hy1
  have hlt3 : B2 < w3.heap.size := Nat.lt_of_lt_of_le hlt hb3.size
  refine ⟨by rw [World.cell?_alloc_at _ _ _ _ rfl]; rfl, by rw [World.cell?_alloc_at _ _ _ _ rfl]; rfl, ?_, ?_, ?_⟩
  · rw [World.cell?_alloc_past _ _ _ hlt3]; exact (hb3.cell (p := ⟨B2, 0, none⟩) hlt).trans hy1
  · rw [World.cell?_alloc_past _ _ _ hlt3]; exact (hb3.cell (p := ⟨B2, 1, none⟩) hlt).trans hy2
  · exact (hbV.trans (hb3.mono hbV.size)).alloc (Nat.le_trans hbV.size hb3.size) _
theorem lim_way2 {w V w3 : World} {B2 B3 : Nat} {S1 S2 P1 P2 : Int} {T : TypeId} (hbV : Below w.heap.size w V) (hb3 : Below V.heap.size V w3) (hy1 : V.cell? ⟨B2, 0, none⟩ = some (.int .i64 S1)) (hy2 : V.cell? ⟨B2, 1, none⟩ = some (.int .i64 S2))
    (hr : V.rowIs B3 T 2 (two 0 0)) (hne : B2 ≠ B3) (hB3 : w.heap.size ≤ B3) :
    AfterLim w ((w3.setCell ⟨B3, 0, none⟩ (.int .i64 P1)).setCell ⟨B3, 1, none⟩ (.int .i64 P2)) B2 B3 S1 S2 P1 P2 := by
  have hlt : B2 < V.heap.size := World.block_lt_of_cell? _ _ hy1
  have h3 : w3.rowIs B3 T 2 (two 0 0) := hr.of_block (hb3.block _ hr.lt)
  have h4 := (h3.set 0 (.int .i64 P1)).set 1 (.int .i64 P2)
  refine ⟨?_, ?_, ?_, ?_, ?_⟩
  · exact (h4.cell (i := 0) (by omega)).trans rfl
  · exact (h4.cell (i := 1) (by omega)).trans rfl
  · rw [World.cell?_setCell_far _ _ _ _ (by exact Ne.symm hne), World.cell?_setCell_far _ _ _ _ (by exact Ne.symm hne)]; exact (hb3.cell (p := ⟨B2, 0, none⟩) hlt).trans hy1
  · rw [World.cell?_setCell_far _ _ _ _ (by exact Ne.symm hne), World.cell?_setCell_far _ _ _ _ (by exact Ne.symm hne)]; exact (hb3.cell (p := ⟨B2, 1, none⟩) hlt).trans hy2
  · exact ((hbV.trans (hb3.mono hbV.size)).setCell hB3 _).setCell hB3 _
theorem rowC_len (c m : Nat → Int) (k : Nat) : (rowC c m k).length = k := by unfold rowC; simp
theorem rowB_len (c m : Nat → Int) : ∀ k, (rowB c m k).length = k * 2
  | 0 => rfl
  | k + 1 => by rw [rowB_succ, List.length_append, rowB_len c m k]; simp; omega
theorem rowC_get (c m : Nat → Int) {k i : Nat} (h : i < k) : (rowC c m k)[i]? = some (cx c m i) := by
  unfold rowC
  rw [List.getElem?_map, List.getElem?_range h]; rfl
theorem rowB_get (c m : Nat → Int) : ∀ {k i : Nat}, i < k → (rowB c m k)[i * 2]? = some (.int .i64 (nearM (c i))) ∧ (rowB c m k)[i * 2 + 1]? = some (.int .i64 (nearM (m i)))
  | 0, _, h => absurd h (by omega)
  | k + 1, i, h => by
    rw [rowB_succ]
    by_cases hi : i < k
    · have := rowB_get c m hi
      rw [List.getElem?_append_left (by rw [rowB_len]; omega), List.getElem?_append_left (by rw [rowB_len]; omega)]
      exact this
    · obtain rfl : i = k := by omega
      rw [List.getElem?_append_right (by rw [rowB_len]; omega), List.getElem?_append_right (by rw [rowB_len]; omega), rowB_len]
      simp
theorem rowB_get0 (c m : Nat → Int) {k i : Nat} (h : i < k) : (rowB c m k)[i * 2]? = some (.int .i64 (nearM (c i))) := (rowB_get c m h).1
theorem rowB_get1 (c m : Nat → Int) {k i : Nat} (h : i < k) : (rowB c m k)[i * 2 + 1]? = some (.int .i64 (nearM (m i))) := (rowB_get c m h).2
/-- the sums of the rows that the law makes -/
theorem kSumOwn (w : World) (base n : Nat) (va : Go.Value) (c m : Nat → Int) (hn : n ≤ 300) (h : w.ownsRow base 36 1 va n (rowC c m n)) (x y : Int) (hx : su (fun i => nearM (c i)) n = x) (hy : su (fun i => nearM (m i)) n = y) :
    Calls Try.prog 30 #[va] w fun e w' => e = .returned (.complex .f64 (floatOfInt .f64 x) (floatOfInt .f64 y)) ∧ w = w' := by
  rcases h.2 with ⟨rfl, rfl⟩ | ⟨g, cap, cur, rfl, _, _, h2, _⟩
  · subst hx hy; exact kSumNil w
  · by_cases h0 : n = 0
    · subst h0
      have hx' : (0 : Int) = x := hx
      have hy' : (0 : Int) = y := hy
      subst hx' hy'
      have HZ := Lib.hid fl_zero
      go_enter Try.func30, Try.ntmps30
      go_wp2_with fail
      refine wp_loop_rounds 1 ?_
      rw [rounds_succ]
      go_wp2
      go_ret
      exact ⟨ret_cx HZ.out.symm HZ.out.symm, rfl⟩
    · exact kSum w g n cap (fun i => nearM (c i)) (fun i => nearM (m i)) (by omega) hn h2 (fun i _ => by have := nearM_bd (c i); omega) (fun i _ => by have := nearM_bd (m i); omega) (fun i hi => (h.cellAt i (by omega)).trans (rowC_get c m hi)) x y hx hy
theorem kRefSumOwn (w : World) (base n : Nat) (va : Go.Value) (c m : Nat → Int) (hn : n ≤ 300) (h : w.ownsRow base 38 2 va n (rowB c m n)) (x y : Int) (hx : su (fun i => nearM (c i)) n = x) (hy : su (fun i => nearM (m i)) n = y) :
    Calls Try.prog 31 #[va] w fun e w' => e = .returned (.agg #[.int .i64 x, .int .i64 y]) ∧ Below w.heap.size w w' := by
  by_cases h0 : n = 0
  · subst h0
    have hx' : (0 : Int) = x := hx
    have hy' : (0 : Int) = y := hy
    subst hx' hy'
    rcases h.2 with ⟨rfl, _⟩ | ⟨g, cap, cur, rfl, _, _, h2, _⟩
    · exact kRefSumNil w
    · go_enter Try.func31, Try.ntmps31
      go_wp2_with fail
      refine wp_loop_rounds 1 ?_
      rw [rounds_succ]
      go_wp2
      refine bodyPost_ret (v := .agg #[.int .i64 0, .int .i64 0]) (by simp [results, Try.results31, go_sem]) rfl ⟨rfl, ?_⟩
      exact ((Below.refl _ _).alloc (Nat.le_refl _) _).alloc (by simp) _
  · rcases h.2 with ⟨rfl, rfl⟩ | ⟨g, cap, cur, rfl, _, hg, h2, _⟩
    · exact absurd rfl h0
    · exact kRefSum w g n cap (fun i => nearM (c i)) (fun i => nearM (m i)) (by omega) hn (h.lt g rfl).2 (fun i _ => by have := nearM_bd (c i); omega) (fun i _ => by have := nearM_bd (m i); omega)
        (fun i hi => ⟨(h.cellAt (i * 2) (by omega)).trans (rowB_get0 c m hi), (h.cellAt (i * 2 + 1) (by omega)).trans (rowB_get1 c m hi)⟩) x y hx hy

set_option maxRecDepth 100000 in
set_option maxHeartbeats 4000000 in
theorem kBurdenAdds (A : Option Addr) (n cap : Nat) (c m : Nat → Int) (p q : Int) (w : World) (hn : n ≤ 200) (hcap : n ≤ cap)
    (hcell : 0 < n → ∃ b off, A = some ⟨b, off, none⟩ ∧ b < w.heap.size ∧ ∀ i, i < n → w.cell? ⟨b, off + i * 2, none⟩ = some (.int .i64 (c i)) ∧ w.cell? ⟨b, off + i * 2 + 1, none⟩ = some (.int .i64 (m i))) :
    Calls Try.prog 6 #[.slice A n cap, .agg #[.int .i64 p, .int .i64 q]] w fun e w' => e = .returned (.bool true) ∧ Below w.heap.size w w' := by
  obtain ⟨iC, hiC, hzC, hsC, hbC⟩ := info_parts infoC
  obtain ⟨iB, hiB, hzB, hsB, hbB⟩ := info_parts infoB
  have HL0 := Lib.hid hcell
  have hlim : ((200 : Int) < (n : Int)) = False := by simp; omega
  clear hcell
  go_enter Try.func6, Try.ntmps6
  go_wp2_with fail
  obtain ⟨W0, hW0⟩ : ∃ W0, W0 = w.alloc (Obj.cells #[.int .i64 p, .int .i64 q] 33) := ⟨_, rfl⟩
  rw [← hW0]
  have hwb : Below w.heap.size w W0 := by rw [hW0]; exact (Below.refl _ _).alloc (Nat.le_refl _) _
  have hbx0 : W0.cell? ⟨w.heap.size, 0, none⟩ = some (.int .i64 p) := by rw [hW0, World.cell?_alloc_at _ _ _ _ rfl]; rfl
  have hbx1 : W0.cell? ⟨w.heap.size, 1, none⟩ = some (.int .i64 q) := by rw [hW0, World.cell?_alloc_at _ _ _ _ rfl]; rfl
  have hws : w.heap.size < W0.heap.size := by rw [hW0]; simp
  have HB0 := Lib.hid hbx0
  have HB1 := Lib.hid hbx1
  have HW := Lib.hid hwb
  clear hW0 hbx0 hbx1 hwb
  go_loopw [5, 6, 7] (fun sa sb i wr => ∃ (k : Nat) (va vb : Go.Value), k ≤ n ∧ va = sa ∧ vb = sb ∧ i = .int .i64 k ∧ Hid (wr.ownsRow W0.heap.size 36 1 va k (rowC c m k)) ∧ Hid (wr.ownsRow W0.heap.size 38 2 vb k (rowB c m k)) ∧ Below W0.heap.size W0 wr) (fun _ _ i _ => n - (intOf i).toNat)
  case atStart => exact ⟨0, _, _, Nat.zero_le _, rfl, rfl, rfl, Lib.hid (World.ownsRow_nil _ _ _ _), Lib.hid (World.ownsRow_nil _ _ _ _), Below.refl _ _⟩
  case round =>
    obtain ⟨k, va, vb, hk, rfl, rfl, rfl, HA, HB, hbl⟩ := hrel
    by_cases hlt : k < n
    · obtain ⟨b, off, rfl, hb, hL⟩ := HL0.out (by omega)
      have HL := Lib.hid hL
      clear hL
      have hbW : b < W0.heap.size := by omega
      have hc1 : wr.cell? ⟨b, off + k * 2, none⟩ = some (.int .i64 (c k)) := (hbl.cell (p := ⟨b, off + k * 2, none⟩) hbW).trans ((HW.out.cell (p := ⟨b, off + k * 2, none⟩) hb).trans (HL.out k hlt).1)
      have hc2 : wr.cell? ⟨b, off + k * 2 + 1, none⟩ = some (.int .i64 (m k)) := (hbl.cell (p := ⟨b, off + k * 2 + 1, none⟩) hbW).trans ((HW.out.cell (p := ⟨b, off + k * 2 + 1, none⟩) hb).trans (HL.out k hlt).2)
      have hi0 : (0 : Int) ≤ (k : Int) := by omega
      have hi1 : (k : Int) < (n : Int) := by omega
      go_wp2_with fail
      have hva : va.ownBlock ≠ some b := fun e => by have := (HA.out.lt b e).1; omega
      have hvb : vb.ownBlock ≠ some b := fun e => by have := (HB.out.lt b e).1; omega
      have hsz := hbl.size
      have hcap2 : k + 1 ≤ maxLen := by unfold maxLen; omega
      go_region_held3 (fun w' => w'.cell? ⟨b, off + k * 2, none⟩ = some (.int .i64 (c k)) ∧ w'.cell? ⟨b, off + k * 2 + 1, none⟩ = some (.int .i64 (m k)))
        (first
          | go_keep
          | (go_split_ands
             refine ⟨?_, ?_⟩
             · (rw [hgrow.cell_far _ (by simp; omega) (Ne.symm hva)]; assumption)
             · (rw [hgrow.cell_far _ (by simp; omega) (Ne.symm hva)]; assumption)))
        (first
          | (go_at_call 27; refine (kOf _ _ _).mono ?_; rintro e w' ⟨rfl, rfl⟩)
          | (refine step_append_lies _ (by rfl) _ _ _ (by rfl) W0.heap.size 36 iC _ 1 16 Try.underlying34 hiC hzC hsC hbC rfl (by omega) va k (rowC c m k) (by rfl) ((HA.out.alloc _).drew)
              ⟨wr.heap.size, 0, none⟩ 1 1 [cx c m k] (by rfl) (by rfl) (World.news_of_block (cs := #[cx c m k]) (t := 36) (fr := (0, 0)) (heap_alloc_new wr _)) (by simp [cx, Go.Value.oneCell']) (by omega) hcap2 (by omega) (by simp; omega) (wr.heap.size + 1) (by simp) ?_; intro g1 cap1 w1 hown1 hgrow hat hlt1))
      have hsz1 := hgrow.size
      have hB1 := World.ownsRow.kept ((HB.out.alloc (.cells #[cx c m k] 36)).drew) hgrow (own_ne HA.out HB.out (by decide))
      have HB1 := Lib.hid hB1
      have HA1 : Hid (w1.ownsRow W0.heap.size 36 1 (.slice (some ⟨g1, 0, none⟩) (k + 1) cap1) (k + 1) (rowC c m (k + 1))) := Lib.hid (by rw [rowC_succ]; exact hown1)
      have hbl1 : Below W0.heap.size W0 w1 := ((hbl.alloc hbl.size _).drew).grown hgrow (by simp; omega) (fun g hg => (HA.out.lt g hg).1)
      have hc3 : w1.cell? ⟨b, off + k * 2, none⟩ = some (.int .i64 (c k)) := (hbl1.cell (p := ⟨b, off + k * 2, none⟩) hbW).trans ((HW.out.cell (p := ⟨b, off + k * 2, none⟩) hb).trans (HL.out k hlt).1)
      have hc4 : w1.cell? ⟨b, off + k * 2 + 1, none⟩ = some (.int .i64 (m k)) := (hbl1.cell (p := ⟨b, off + k * 2 + 1, none⟩) hbW).trans ((HW.out.cell (p := ⟨b, off + k * 2 + 1, none⟩) hb).trans (HL.out k hlt).2)
      have hsz2 : W0.heap.size ≤ w1.heap.size := hbl1.size
      have HG1 := Lib.hid (HA1.out.lt g1 rfl)
      clear hc1 hc2 hgrow hown1 hB1 hat hlt1 HA HB hbl hva hsz hsz1
      go_wp2
      go_region_held3 (fun w' => w'.cell? ⟨b, off + k * 2, none⟩ = some (.int .i64 (c k)) ∧ w'.cell? ⟨b, off + k * 2 + 1, none⟩ = some (.int .i64 (m k)))
        (first
          | go_keep
          | (go_split_ands
             refine ⟨?_, ?_⟩
             · (rw [hgrow.cell_far _ (by simp; omega) (Ne.symm hvb)]; assumption)
             · (rw [hgrow.cell_far _ (by simp; omega) (Ne.symm hvb)]; assumption)))
        (first
          | (go_at_call 28; refine (keep2 (kRefOf _ _ _) ⟨b, off + k * 2, none⟩ ⟨b, off + k * 2 + 1, none⟩ _ _ (by first | assumption | simp [*]) (by first | assumption | simp [*])).mono ?_; rintro e w2 ⟨rfl, hb2, hc5, hc6⟩; have hz2 : w1.heap.size ≤ w2.heap.size := hb2.size)
          | (refine step_append_lies _ (by rfl) _ _ _ (by rfl) W0.heap.size 38 iB _ 2 16 Try.underlying35 hiB hzB hsB hbB rfl (by omega) vb k (rowB c m k) (by rfl) ((own_below (HB1.out.drew) hb2).alloc _)
              ⟨w2.heap.size, 0, none⟩ 1 1 [.int .i64 (nearM (c k)), .int .i64 (nearM (m k))] (by rfl) (by rfl) (World.news_of_block (cs := #[.int .i64 (nearM (c k)), .int .i64 (nearM (m k))]) (t := 38) (fr := (0, 0)) (heap_alloc_new w2 _)) (by simp [Go.Value.oneCell']) (by omega) hcap2 (by omega) (by simp; omega) (w2.heap.size + 1) (by simp) ?_; intro g2 cap2 w3 hown2 hgrow hat hlt2))
      have HA2 : Hid (w3.ownsRow W0.heap.size 36 1 (.slice (some ⟨g1, 0, none⟩) (k + 1) cap1) (k + 1) (rowC c m (k + 1))) := Lib.hid (World.ownsRow.kept ((own_below (HA1.out.drew) hb2).alloc _) hgrow (own_ne HB1.out HA1.out (by decide)))
      have HB2 : Hid (w3.ownsRow W0.heap.size 38 2 (.slice (some ⟨g2, 0, none⟩) (k + 1) cap2) (k + 1) (rowB c m (k + 1))) := Lib.hid (by rw [rowB_succ]; exact hown2)
      have hbl3 : Below W0.heap.size W0 w3 := ((hbl1.drew.trans (hb2.mono hsz2)).alloc (by omega) _).grown hgrow (by simp; omega) (fun g hg => (HB1.out.lt g hg).1)
      have HG2 := Lib.hid (HB2.out.lt g2 rfl)
      have hlen : (rowC c m (k + 1))[k]? = some (cx c m k) := rowC_get c m (by omega)
      have hlB0 : (rowB c m (k + 1))[k * 2]? = some (.int .i64 (nearM (c k))) := rowB_get0 c m (by omega)
      have hlB1 : (rowB c m (k + 1))[k * 2 + 1]? = some (.int .i64 (nearM (m k))) := rowB_get1 c m (by omega)
      have hd1 : w3.cell? ⟨g1, k, none⟩ = some (cx c m k) := (HA2.out.cellAt k (by omega)).trans hlen
      have hd2 : w3.cell? ⟨g2, k * 2, none⟩ = some (.int .i64 (nearM (c k))) := (HB2.out.cellAt (k * 2) (by omega)).trans hlB0
      have hd3 : w3.cell? ⟨g2, k * 2 + 1, none⟩ = some (.int .i64 (nearM (m k))) := (HB2.out.cellAt (k * 2 + 1) (by omega)).trans hlB1
      have hsz3 : W0.heap.size ≤ w3.heap.size := hbl3.size
      have bx := nearM_bd (c k)
      have by' := nearM_bd (m k)
      have hi2 : (k : Int) < (k : Int) + 1 := by omega
      have hgl1 : g1 < w3.heap.size := (HA2.out.lt g1 rfl).2
      have hgl2 : g2 < w3.heap.size := HG2.out.2
      unfold cx at hd1
      clear hlen hlB0 hlB1 hgrow hown2 hat hlt2 HA1 HB1 HG1 hbl1 hc3 hc4 hc5 hc6 hb2 hz2 hvb hsz2 hcap2
      generalize nearM (c k) = x at *
      generalize nearM (m k) = y at *
      go_wp2
      go_region_held3 (fun w' => w'.cell? ⟨g1, k, none⟩ = some (.complex .f64 (floatOfInt .f64 x) (floatOfInt .f64 y)) ∧ w'.cell? ⟨g2, k * 2, none⟩ = some (.int .i64 x) ∧ w'.cell? ⟨g2, k * 2 + 1, none⟩ = some (.int .i64 y))
        (first
          | go_keep)
        (first
          | (go_at_call 29; refine (kIs x y _ (by omega) (by omega) (by omega) (by omega)).mono ?_; rintro e w4 ⟨rfl, hb4⟩; have hk1 := (hb4.cell (p := ⟨g1, k, none⟩) hgl1).trans hd1; have hk2 := (hb4.cell (p := ⟨g2, k * 2, none⟩) hgl2).trans hd2; have hk3 := (hb4.cell (p := ⟨g2, k * 2 + 1, none⟩) hgl2).trans hd3))
      have HA3 := Lib.hid (own_below (HA2.out.drew) hb4)
      have HB3 := Lib.hid (own_below (HB2.out.drew) hb4)
      have hbl4 : Below W0.heap.size W0 w4 := hbl3.drew.trans (hb4.mono hsz3)
      clear hk1 hk2 hk3 hb4 HA2 HB2 hd1 hd2 hd3 hbl3
      go_wp2
      go_roundw
      case rel => exact ⟨k + 1, _, _, by omega, rfl, rfl, by go_num, HA3, HB3, hbl4⟩
      case measure => simp [intOf]; omega
    · have hkn : k = n := by omega
      subst hkn
      have hbp := nearM_bd p
      have hbq := nearM_bd q
      have hS1 := su_le (f := fun i => nearM (c i)) (M := 1099511627776) (n := k) 200 (fun i _ => nearM_bd (c i)) hn (by omega) (k := k) (Nat.le_refl _)
      have hS2 := su_le (f := fun i => nearM (m i)) (M := 1099511627776) (n := k) 200 (fun i _ => nearM_bd (m i)) hn (by omega) (k := k) (Nat.le_refl _)
      obtain ⟨S1, hs1⟩ : ∃ S1, su (fun i => nearM (c i)) k = S1 := ⟨_, rfl⟩
      obtain ⟨S2, hs2⟩ : ∃ S2, su (fun i => nearM (m i)) k = S2 := ⟨_, rfl⟩
      rw [hs1] at hS1
      rw [hs2] at hS2
      have K1 := Lib.hid (kSumOwn wr _ k va c m (by omega) HA.out S1 S2 hs1 hs2)
      have K2 := Lib.hid (kRefSumOwn wr _ k vb c m (by omega) HB.out S1 S2 hs1 hs2)
      have L1 := Lib.hid (fun w1 => kOf p q w1)
      have L2 := Lib.hid (fun w1 => kRefOf p q w1)
      have hx1 : wr.cell? ⟨w.heap.size, 0, none⟩ = some (.int .i64 p) := (hbl.cell (p := ⟨w.heap.size, 0, none⟩) hws).trans HB0.out
      have hx2 : wr.cell? ⟨w.heap.size, 1, none⟩ = some (.int .i64 q) := (hbl.cell (p := ⟨w.heap.size, 1, none⟩) hws).trans HB1.out
      have hbw : Below w.heap.size w wr := HW.out.trans (hbl.mono (by omega))
      have hsw : w.heap.size < wr.heap.size := by have := hbl.size; omega
      generalize nearM p = P1 at *
      generalize nearM q = P2 at *
      clear HA HB HB0 HB1 HW HL0 hbl hws hs1 hs2 hiC hzC hsC hbC hiB hzB hsB hbB hn hcap hlt hk
      go_wp2_with fail
      refine K1.out.mono ?_
      rintro e w1 ⟨rfl, rfl⟩
      go_wp2_with fail
      refine K2.out.mono ?_
      rintro e w2 ⟨rfl, hb2⟩
      go_upto_region 13 with fail
      obtain ⟨W1, hW1⟩ : ∃ W1, W1 = w2.alloc (Obj.cells #[.int .i64 S1, .int .i64 S2] 38) := ⟨_, rfl⟩
      rw [← hW1]
      have hz2 : wr.heap.size ≤ w2.heap.size := hb2.size
      have hz3 : w2.heap.size < W1.heap.size := by rw [hW1]; simp
      have hy1 : W1.cell? ⟨w2.heap.size, 0, none⟩ = some (.int .i64 S1) := by rw [hW1, World.cell?_alloc_at _ _ _ _ rfl]; rfl
      have hy2 : W1.cell? ⟨w2.heap.size, 1, none⟩ = some (.int .i64 S2) := by rw [hW1, World.cell?_alloc_at _ _ _ _ rfl]; rfl
      have hx3 : W1.cell? ⟨w.heap.size, 0, none⟩ = some (.int .i64 p) := by rw [hW1, World.cell?_alloc_past _ _ _ (by omega)]; exact (hb2.cell (p := ⟨w.heap.size, 0, none⟩) hsw).trans hx1
      have hx4 : W1.cell? ⟨w.heap.size, 1, none⟩ = some (.int .i64 q) := by rw [hW1, World.cell?_alloc_past _ _ _ (by omega)]; exact (hb2.cell (p := ⟨w.heap.size, 1, none⟩) hsw).trans hx2
      have hbw1 : Below w.heap.size w W1 := by rw [hW1]; exact (hbw.trans (hb2.mono (by omega))).alloc (by omega) _
      clear hW1 hb2 hx1 hx2 hbw
      have hne1 : ¬ w.heap.size = W1.heap.size := by omega
      have hne2 : ¬ W1.heap.size = w.heap.size := by omega
      generalize w2.heap.size = B2 at *
      go_cut [10, 11] (fun s10 s11 wx => ∃ B3 : Nat, s10 = .complex .f64 (floatOfInt .f64 P1) (floatOfInt .f64 P2) ∧ s11 = .pointer (some ⟨B3, 0, none⟩) ∧ AfterLim w wx B2 B3 S1 S2 P1 P2)
      case first =>
        go_region_held3 (fun w' => w'.cell? ⟨w.heap.size, 0, none⟩ = some (.int .i64 p) ∧ w'.cell? ⟨w.heap.size, 1, none⟩ = some (.int .i64 q))
          (first
            | go_keep)
          (first
            | (go_at_call 27; refine (L1.out _).mono ?_; rintro e w' ⟨rfl, rfl⟩)
            | (go_at_call 28; refine (keep2c (x := ⟨w.heap.size, 0, none⟩) (y := ⟨w.heap.size, 1, none⟩) (u := .int .i64 p) (t := .int .i64 q) (L2.out _) (by assumption)).mono ?_; rintro e w3 ⟨rfl, hb3, hc5, hc6⟩; obtain ⟨hcc, hff⟩ := bcell28 hb3))
        all_goals
          go_wp2_with fail
          go_meet
          first
            | exact ⟨w3.heap.size, rfl, rfl, lim_way1 (hbw1.drew) hb3 hy1 hy2⟩
            | exact ⟨W1.heap.size, rfl, rfl, lim_way2 (T := 38) ((hbw1.drew).alloc (by simp; omega) _) hb3 (by rw [World.cell?_alloc_past _ _ _ (by simp; omega)]; exact hy1) (by rw [World.cell?_alloc_past _ _ _ (by simp; omega)]; exact hy2) (World.rowIs_alloc _ _ _ _ (fun i hi => by have hi' : i < 2 := hi; rcases (show i = 0 ∨ i = 1 by omega) with rfl | rfl <;> rfl)) (by omega) (by omega)⟩
      case rest =>
        obtain ⟨B3, rfl, rfl, hlim3⟩ := hcut
        obtain ⟨hm1, hm2, hm3, hm4, hbm⟩ := hlim3
        have K3 := Lib.hid (fun w1 => kParts S1 S2 w1 (by omega) (by omega) (by omega) (by omega))
        have K4 := Lib.hid (fun w1 => kIs S1 S2 w1 (by omega) (by omega) (by omega) (by omega))
        obtain ⟨rr, hrr⟩ : ∃ r, decide (S1 ≤ P1 ∧ S2 ≤ P2) = r := ⟨_, rfl⟩
        obtain ⟨o1, ho1⟩ : ∃ r, max (S1 - P1) 0 = r := ⟨_, rfl⟩
        obtain ⟨o2, ho2⟩ : ∃ r, max (S2 - P2) 0 = r := ⟨_, rfl⟩
        obtain ⟨m2, hm⟩ : ∃ m2, (S2 ≤ 1125899906842624 ∧ S2 = m2) ∨ (1125899906842624 < S2 ∧ m2 = 1125899906842624) := by
          by_cases h : S2 ≤ 1125899906842624
          · exact ⟨_, .inl ⟨h, rfl⟩⟩
          · exact ⟨_, .inr ⟨by omega, rfl⟩⟩
        obtain ⟨l, hl⟩ : ∃ l, mtxt S1 ++ 32 :: szT m2 = l := ⟨_, rfl⟩
        have K5 := Lib.hid (fun w1 => kFitsT S1 S2 P1 P2 w1 (by omega) (by omega) (by omega) (by omega) (by omega) (by omega) (by omega) (by omega) rr hrr)
        have K6 := Lib.hid (fun w1 => kRefFits S1 S2 P1 P2 w1 rr hrr)
        have K7 := Lib.hid (fun w1 => kOver S1 S2 P1 P2 w1 (by omega) (by omega) (by omega) (by omega) (by omega) (by omega) (by omega) (by omega) o1 o2 ho1 ho2)
        have K8 := Lib.hid (fun w1 => kRefOver S1 S2 P1 P2 w1 (by omega) (by omega) (by omega) (by omega) (by omega) (by omega) (by omega) (by omega) o1 o2 ho1 ho2)
        have K9 := Lib.hid (fun w1 => kIs o1 o2 w1 (by omega) (by omega) (by omega) (by omega))
        have K10 := Lib.hid (fun w1 => kBurText S1 S2 m2 w1 (by omega) (by omega) (by omega) (by omega) hm l hl)
        have K11 := Lib.hid (fun w1 => kRefBurText S1 S2 m2 w1 (by omega) (by omega) (by omega) (by omega) hm l hl)
        have q1 : ((bs l).toList == (bs l).toList) = true := beq_self_eq_true _
        have q2 : (S1 == S1) = true := beq_self_eq_true _
        have q3 : (S2 == S2) = true := beq_self_eq_true _
        have q4 : (rr == rr) = true := beq_self_eq_true _
        clear hrr ho1 ho2 hm hl hS1 hS2 hbp hbq L1 L2 K1 K2
        go_wp2_with fail
        refine (K3.out _).mono ?_
        rintro e w4 ⟨rfl, rfl⟩
        go_wp2_with fail
        go_region_held3 (fun w' => w'.cell? ⟨B3, 0, none⟩ = some (.int .i64 P1) ∧ w'.cell? ⟨B3, 1, none⟩ = some (.int .i64 P2) ∧ w'.cell? ⟨B2, 0, none⟩ = some (.int .i64 S1) ∧ w'.cell? ⟨B2, 1, none⟩ = some (.int .i64 S2))
          (first
            | go_keep
            | assumption)
          (first
            | (go_at_call_of 29 (Go.Value.int .i64 S1); refine (keep4 (K4.out _) (by assumption)).mono ?_; rintro e w5 ⟨rfl, hb5, hc5⟩)
            | (go_at_call 33; refine (K5.out _).mono ?_; rintro e w' ⟨rfl, rfl⟩)
            | (go_at_call 34; refine (keep4 (K6.out _) (by assumption)).mono ?_; rintro e w6 ⟨rfl, hb6, hc6⟩)
            | (go_at_call 35; refine (K7.out _).mono ?_; rintro e w' ⟨rfl, rfl⟩)
            | (go_at_call 36; refine (keep4 (K8.out _) (by assumption)).mono ?_; rintro e w7 ⟨rfl, hb7, hc7⟩)
            | (go_at_call 29; refine (keep4 (K9.out _) (by assumption)).mono ?_; rintro e w8 ⟨rfl, hb8, hc8⟩)
            | (go_at_call 37; refine (keep4 (K10.out _) (by assumption)).mono ?_; rintro e w9 ⟨rfl, hb9, hc9⟩)
            | (go_at_call 38; refine (keep4 (K11.out _) (by assumption)).mono ?_; rintro e w10 ⟨rfl, hb10, hc10⟩)
            | (go_at_call 26; refine (keep4 (kAwake28 _) (by assumption)).mono ?_; rintro e w11 ⟨rfl, hb11, hc11⟩))
        all_goals
          go_wp2_with fail
          have b5 : Below w.heap.size w w5 := hbm.drew.trans (hb5.mono hbm.drew.size)
          have b6 : Below w.heap.size w w6 := b5.trans (hb6.mono b5.size)
          have b7 : Below w.heap.size w w7 := b6.trans (hb7.mono b6.size)
          have b8 : Below w.heap.size w w8 := b7.trans (hb8.mono b7.size)
          have b9 : Below w.heap.size w w9 := b8.trans (hb9.mono b8.size)
          have b10 : Below w.heap.size w w10 := b9.trans (hb10.mono b9.size)
          go_ret
          exact ⟨rfl, b10.trans (hb11.mono b10.size)⟩

theorem kBurdenAddsMany (p q : Int) (w : World) (A : Option Addr) (n cap : Nat) (hn : 200 < n) (hn2 : n ≤ maxLen) :
    Calls Try.prog 6 #[.slice A n cap, .agg #[.int .i64 p, .int .i64 q]] w fun e w' => e = .returned (.bool true) ∧ Below w.heap.size w w' := by
  unfold maxLen at hn2
  go_enter Try.func6, Try.ntmps6
  go_wp2_with fail
  refine (kAwake28 _).mono ?_
  rintro e w1 ⟨rfl, hb1⟩
  go_wp2_with fail
  go_ret
  exact ⟨rfl, ((Below.refl _ _).alloc (Nat.le_refl _) _).trans (hb1.mono (by simp))⟩
end Go.Proofs.Ytglihjdbbpohlaa.W
