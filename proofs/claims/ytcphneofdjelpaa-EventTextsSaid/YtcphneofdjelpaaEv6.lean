/- The same notes. -/
import Derived.Test.YtcphneofdjelpaaEv5
namespace Go.Proofs.Ytcphneofdjelpaa.W
open Go.RowKit Go.Proofs.Ytcphneofdjelpaa.Pl

theorem there_newN (w : World) (Z : Array Go.Value) (t : TypeId) {b n : Nat} (hb : b = w.heap.size) (hn : n ≤ Z.size) : (w.alloc (.cells Z t)).there b 0 n := by subst hb; exact there_new _ _ _ hn
theorem infoRNsz : (Try.prog.info? 36).map (·.size) = some 22 := by kernel_rfl
/-- both are written -/
theorem twoA {w : World} {p q : Nat} {cs : List Go.Value} (hpq : p ≠ q) (hl : cs.length = 22) (hp : w.there p 0 22) (hq : w.there q 0 22) : ((w.setCells p 0 cs).setCells q 0 cs).rangeAt p 0 cs ∧ ((w.setCells p 0 cs).setCells q 0 cs).rangeAt q 0 cs :=
  ⟨World.rangeAt_setCells_apart (World.rangeAt_setCells_same _ _ _ _ (by rw [hl]; exact hp)) _ _ _ (.inl hpq), World.rangeAt_setCells_same _ _ _ _ (by rw [hl]; exact World.there_setCells hq _ _ _)⟩
theorem twoB {w : World} {p q : Nat} {cs : List Go.Value} (o : Obj) (hpq : p ≠ q) (hl : cs.length = 22) (hp : w.there p 0 22) (hq : ((w.setCells p 0 cs).alloc o).there q 0 22) : (((w.setCells p 0 cs).alloc o).setCells q 0 cs).rangeAt p 0 cs ∧ (((w.setCells p 0 cs).alloc o).setCells q 0 cs).rangeAt q 0 cs :=
  ⟨World.rangeAt_setCells_apart (World.rangeAt_alloc (World.rangeAt_setCells_same _ _ _ _ (by rw [hl]; exact hp)) _) _ _ _ (.inl hpq), World.rangeAt_setCells_same _ _ _ _ (by rw [hl]; exact hq)⟩

set_option maxRecDepth 100000 in
set_option maxHeartbeats 16000000 in
theorem kSame44 (v1 v2 : Go.Value) (xs : List NV) (w : World) (hr1 : NRow w v1 xs) (hr2 : NRow w v2 xs) (hrd : ∀ x ∈ xs, Rd w x) :
    Calls Try.prog 11 #[v1, v2] w fun e w' => e = .returned (.bool true) ∧ Below w.heap.size w w' := by
  obtain ⟨A1, cap1, rfl, hcap1, hmax1, hcell1⟩ := hr1
  obtain ⟨A2, cap2, rfl, hcap2, hmax2, hcell2⟩ := hr2
  unfold maxLen at hmax1 hmax2
  have HL1 := Lib.hid hcell1
  have HL2 := Lib.hid hcell2
  have HD := Lib.hid hrd
  clear hcell1 hcell2 hrd
  obtain ⟨n, hnn⟩ : ∃ n, xs.length = n := ⟨_, rfl⟩
  have HN := Lib.hid hnn
  rw [hnn] at hcap1 hcap2 HL1 HL2 ⊢
  clear hnn
  go_enter Try.func11, Try.ntmps11
  go_wp2_with fail
  go_loopw [5] (fun i wr => ∃ (k : Nat), k ≤ n ∧ i = .int .i64 k ∧ Below w.heap.size w wr) (fun i _ => n - (intOf i).toNat)
  case atStart => exact ⟨0, Nat.zero_le _, rfl, Below.refl _ _⟩
  case round =>
    obtain ⟨k, hk, rfl, hbl⟩ := hrel
    by_cases hlt : k < n
    · obtain ⟨b1, off1, rfl, hb1, hL1⟩ := HL1.out (by omega)
      obtain ⟨b2, off2, rfl, hb2, hL2⟩ := HL2.out (by omega)
      obtain ⟨x, hx⟩ : ∃ x, xs[k]? = some x := ⟨_, List.getElem?_eq_getElem (by have := HN.out; omega)⟩
      have r1 : wr.rangeAt b1 (off1 + k * 22) x.cells := fun j v hv => (hbl.cell (p := ⟨b1, off1 + k * 22 + j, none⟩) hb1).trans (hL1 k x hx j v hv)
      have r2 : wr.rangeAt b2 (off2 + k * 22) x.cells := fun j v hv => (hbl.cell (p := ⟨b2, off2 + k * 22 + j, none⟩) hb2).trans (hL2 k x hx j v hv)
      have HX := Lib.hid (HD.out x (List.mem_of_getElem? hx))
      have hi0 : (0 : Int) ≤ (k : Int) := by omega
      have hi1 : (k : Int) < (n : Int) := by omega
      have HO := Lib.hid (all_oneCell_toArray x.one)
      have hcl := x.len
      obtain ⟨cs, hcs⟩ : ∃ cs, cs = x.cells := ⟨_, rfl⟩
      rw [← hcs] at HO r1 r2 hcl
      have hcz : cs.toArray.size = 22 := by rw [List.size_toArray]; exact hcl
      have HCS := Lib.hid hcs
      clear hcs hL1 hL2 hx
      have hS0 : (fun w' : World => w'.rangeAt b1 (off1 + k * 22) cs ∧ w'.rangeAt b2 (off2 + k * 22) cs) wr.drew := ⟨r1, r2⟩
      go_wp2_with fail
      refine wp_region_held_drew (S := fun w' : World => w'.rangeAt b1 (off1 + k * 22) cs ∧ w'.rangeAt b2 (off2 + k * 22) cs) (by kernel_rfl) hS0 (fun _ => ?_)
      have hbd : Below w.heap.size w wr.drew := hbl.drew
      have hz1 : b1 < wr.drew.heap.size := by have := hbd.size; omega
      have hz2 : b2 < wr.drew.heap.size := by have := hbd.size; omega
      generalize wr.drew = wd at *
      clear r1 r2 hbl
      refine wpAnyH_take (i := 0) (v := ?v0) rfl (by kernel_rfl) (by kernel_rfl) (by kernel_rfl) (fun _ _ _ h => h) (Or.inl ⟨by rfl, ?hy0⟩) hS0 ?rest0
      case hy0 => (intro w hSw; go_simp; try with_reducible rfl)
      simp only [Act.put]
      refine wpAnyH_take (i := 1) (v := ?v1) rfl (by kernel_rfl) (by kernel_rfl) (by kernel_rfl) (fun _ _ _ h => h) (Or.inl ⟨by rfl, ?hy1⟩) hS0 ?rest1
      case hy1 => (intro w hSw; go_simp; try with_reducible rfl)
      simp only [Act.put]
      refine wpAnyH_take (i := 2) (v := ?v2) rfl (by kernel_rfl) (by kernel_rfl) (by kernel_rfl) (fun _ _ _ h => h) (Or.inl ⟨by rfl, ?hy2⟩) hS0 ?rest2
      case hy2 => (intro w hSw; go_simp; try with_reducible rfl)
      simp only [Act.put]
      refine wpAnyH_take (i := 3) rfl (by kernel_rfl) (by kernel_rfl) (by kernel_rfl) (fun _ _ _ h => h) (yieldsIf_load_mid (by rfl) 36 _ rfl b1 (off1 + k * 22) rfl cs _ (fun w h => h.1) Try.underlying36 rfl (by rw [hcl]; exact infoRNsz)) hS0 ?_
      simp only [Act.put]
      refine wpAnyH_take (i := 4) (v := ?v4) rfl (by kernel_rfl) (by kernel_rfl) (by kernel_rfl) (fun _ _ _ h => h) (Or.inl ⟨by rfl, ?hy4⟩) hS0 ?rest4
      case hy4 => (intro w hSw; go_simp; try with_reducible rfl)
      simp only [Act.put]
      refine wpAnyH_take (i := 5) (v := ?v5) rfl (by kernel_rfl) (by kernel_rfl) (by kernel_rfl) (fun _ _ _ h => h) (Or.inl ⟨by rfl, ?hy5⟩) hS0 ?rest5
      case hy5 => (intro w hSw; go_simp; try with_reducible rfl)
      simp only [Act.put]
      refine wpAnyH_take (i := 6) (v := ?v6) rfl (by kernel_rfl) (by kernel_rfl) (by kernel_rfl) (fun _ _ _ h => h) (Or.inl ⟨by rfl, ?hy6⟩) hS0 ?rest6
      case hy6 => (intro w hSw; go_simp; try with_reducible rfl)
      simp only [Act.put]
      refine wpAnyH_take (i := 7) rfl (by kernel_rfl) (by kernel_rfl) (by kernel_rfl) (fun _ _ _ h => h) (yieldsIf_load_mid (by rfl) 36 _ rfl b2 (off2 + k * 22) rfl cs _ (fun w h => h.2) Try.underlying36 rfl (by rw [hcl]; exact infoRNsz)) hS0 ?_
      simp only [Act.put]
      refine wpAnyH_ready (rs := [8, 9]) (by kernel_rfl) (by simp) ?_
      refine AllReadyH.cons rfl (fun K hK => ?_) (AllReadyH.cons rfl (fun K hK => ?_) AllReadyH.nil)
      · go_simp
        refine hK.out _ _ ⟨World.rangeAt_alloc hS0.1 _, World.rangeAt_alloc hS0.2 _⟩ (fun hS1 => ?_)
        clear hK K
        refine wpAnyH_ready (rs := [9]) (by kernel_rfl) (by simp) ?_
        refine AllReadyH.cons rfl (fun K hK => ?_) AllReadyH.nil
        go_simp
        refine hK.out _ _ ⟨World.rangeAt_alloc hS1.1 _, World.rangeAt_alloc hS1.2 _⟩ (fun hS2 => ?_)
        clear hK K
        have t1 : ((wd.alloc (.cells #[.int .i64 0, .int .i64 0, .string ⟨#[]⟩, .int .i64 0, .string ⟨#[]⟩, .int .i64 0, .string ⟨#[]⟩, .string ⟨#[]⟩, .string ⟨#[]⟩, .int .i64 0, .string ⟨#[]⟩, .slice none 0 0, .slice none 0 0, .string ⟨#[]⟩, .int .i64 0, .int .i64 0, .int .i64 0, .int .i64 0, .int .i64 0, .int .i64 0, .int .i64 0, .int .i64 0] 36)).alloc (.cells #[.int .i64 0, .int .i64 0, .string ⟨#[]⟩, .int .i64 0, .string ⟨#[]⟩, .int .i64 0, .string ⟨#[]⟩, .string ⟨#[]⟩, .string ⟨#[]⟩, .int .i64 0, .string ⟨#[]⟩, .slice none 0 0, .slice none 0 0, .string ⟨#[]⟩, .int .i64 0, .int .i64 0, .int .i64 0, .int .i64 0, .int .i64 0, .int .i64 0, .int .i64 0, .int .i64 0] 36)).there wd.heap.size 0 22 := World.there_alloc (there_newN _ _ _ rfl (by decide)) _
        have t2 : ((wd.alloc (.cells #[.int .i64 0, .int .i64 0, .string ⟨#[]⟩, .int .i64 0, .string ⟨#[]⟩, .int .i64 0, .string ⟨#[]⟩, .string ⟨#[]⟩, .string ⟨#[]⟩, .int .i64 0, .string ⟨#[]⟩, .slice none 0 0, .slice none 0 0, .string ⟨#[]⟩, .int .i64 0, .int .i64 0, .int .i64 0, .int .i64 0, .int .i64 0, .int .i64 0, .int .i64 0, .int .i64 0] 36)).alloc (.cells #[.int .i64 0, .int .i64 0, .string ⟨#[]⟩, .int .i64 0, .string ⟨#[]⟩, .int .i64 0, .string ⟨#[]⟩, .string ⟨#[]⟩, .string ⟨#[]⟩, .int .i64 0, .string ⟨#[]⟩, .slice none 0 0, .slice none 0 0, .string ⟨#[]⟩, .int .i64 0, .int .i64 0, .int .i64 0, .int .i64 0, .int .i64 0, .int .i64 0, .int .i64 0, .int .i64 0] 36)).there (wd.heap.size + 1) 0 22 := there_newN _ _ _ (by simp) (by decide)
        have hb3 : Below w.heap.size w ((wd.alloc (.cells #[.int .i64 0, .int .i64 0, .string ⟨#[]⟩, .int .i64 0, .string ⟨#[]⟩, .int .i64 0, .string ⟨#[]⟩, .string ⟨#[]⟩, .string ⟨#[]⟩, .int .i64 0, .string ⟨#[]⟩, .slice none 0 0, .slice none 0 0, .string ⟨#[]⟩, .int .i64 0, .int .i64 0, .int .i64 0, .int .i64 0, .int .i64 0, .int .i64 0, .int .i64 0, .int .i64 0] 36)).alloc (.cells #[.int .i64 0, .int .i64 0, .string ⟨#[]⟩, .int .i64 0, .string ⟨#[]⟩, .int .i64 0, .string ⟨#[]⟩, .string ⟨#[]⟩, .string ⟨#[]⟩, .int .i64 0, .string ⟨#[]⟩, .slice none 0 0, .slice none 0 0, .string ⟨#[]⟩, .int .i64 0, .int .i64 0, .int .i64 0, .int .i64 0, .int .i64 0, .int .i64 0, .int .i64 0, .int .i64 0] 36)) := (hbd.alloc hbd.size _).alloc (by have := hbd.size; simp; omega) _
        generalize (wd.alloc (.cells #[.int .i64 0, .int .i64 0, .string ⟨#[]⟩, .int .i64 0, .string ⟨#[]⟩, .int .i64 0, .string ⟨#[]⟩, .string ⟨#[]⟩, .string ⟨#[]⟩, .int .i64 0, .string ⟨#[]⟩, .slice none 0 0, .slice none 0 0, .string ⟨#[]⟩, .int .i64 0, .int .i64 0, .int .i64 0, .int .i64 0, .int .i64 0, .int .i64 0, .int .i64 0, .int .i64 0] 36)).alloc (.cells #[.int .i64 0, .int .i64 0, .string ⟨#[]⟩, .int .i64 0, .string ⟨#[]⟩, .int .i64 0, .string ⟨#[]⟩, .string ⟨#[]⟩, .string ⟨#[]⟩, .int .i64 0, .string ⟨#[]⟩, .slice none 0 0, .slice none 0 0, .string ⟨#[]⟩, .int .i64 0, .int .i64 0, .int .i64 0, .int .i64 0, .int .i64 0, .int .i64 0, .int .i64 0, .int .i64 0] 36) = we at *
        refine wpAnyH_ready (rs := [10]) (by kernel_rfl) (by simp) ?_
        refine AllReadyH.cons rfl (fun K hK => ?_) AllReadyH.nil
        rw [if_pos (by rfl)]
        refine wp_store_mid 36 _ _ rfl (wd.heap.size) 0 cs.toArray rfl rfl (by rw [hcz]; exact t1) (by rw [hcz]; exact infoRNsz) HO.out ?_
        refine hK.out _ _ ⟨World.rangeAt_setCells_apart hS2.1 _ _ _ (.inl (by omega)), World.rangeAt_setCells_apart hS2.2 _ _ _ (.inl (by omega))⟩ (fun hS3 => ?_)
        clear hK K
        refine wpAnyH_ready (rs := [11]) (by kernel_rfl) (by simp) ?_
        refine AllReadyH.cons rfl (fun K hK => ?_) AllReadyH.nil
        rw [if_pos (by rfl)]
        refine wp_store_mid 36 _ _ rfl (wd.heap.size + 1) 0 cs.toArray rfl rfl (by rw [hcz]; exact (World.there_setCells t2 _ _ _)) (by rw [hcz]; exact infoRNsz) HO.out ?_
        refine hK.out _ _ ⟨World.rangeAt_setCells_apart hS3.1 _ _ _ (.inl (by omega)), World.rangeAt_setCells_apart hS3.2 _ _ _ (.inl (by omega))⟩ (fun hS4 => ?_)
        clear hK K
        refine wpAnyH_done (by kernel_rfl) ?_ _
        obtain ⟨wo, hwo⟩ : ∃ wo, wo = (we.setCells (wd.heap.size) 0 cs.toArray.toList).setCells (wd.heap.size + 1) 0 cs.toArray.toList := ⟨_, rfl⟩
        have ho : wo.rangeAt (wd.heap.size) 0 cs ∧ wo.rangeAt (wd.heap.size + 1) 0 cs := by rw [hwo]; exact twoA (by omega) hcl t1 t2
        have hbo : Below w.heap.size w wo := by rw [hwo]; exact below_setCells _ _ _ (below_setCells _ _ _ hb3 (by have := hbd.size; omega)) (by have := hbd.size; omega)
        rw [← hwo]
        clear hwo hS1 hS2 hS3 hS4 hS0 t1 t2 hb3
        rw [HCS.out] at ho
        have f0 : wo.cell? ⟨wd.heap.size, 0, none⟩ = some (.int .i64 x.a0) := by have := ho.1 0 _ rfl; rwa [Nat.zero_add] at this
        have f1 : wo.cell? ⟨wd.heap.size, 1, none⟩ = some (.int .i64 x.kind) := by have := ho.1 1 _ rfl; rwa [Nat.zero_add] at this
        have f2 : wo.cell? ⟨wd.heap.size, 2, none⟩ = some (.string x.proj) := by have := ho.1 2 _ rfl; rwa [Nat.zero_add] at this
        have f3 : wo.cell? ⟨wd.heap.size, 3, none⟩ = some (.int .i64 x.ck) := by have := ho.1 3 _ rfl; rwa [Nat.zero_add] at this
        have f4 : wo.cell? ⟨wd.heap.size, 4, none⟩ = some (.string x.cn) := by have := ho.1 4 _ rfl; rwa [Nat.zero_add] at this
        have f5 : wo.cell? ⟨wd.heap.size, 5, none⟩ = some (.int .i64 x.ci) := by have := ho.1 5 _ rfl; rwa [Nat.zero_add] at this
        have f6 : wo.cell? ⟨wd.heap.size, 6, none⟩ = some (.string x.s0) := by have := ho.1 6 _ rfl; rwa [Nat.zero_add] at this
        have f7 : wo.cell? ⟨wd.heap.size, 7, none⟩ = some (.string x.s1) := by have := ho.1 7 _ rfl; rwa [Nat.zero_add] at this
        have f8 : wo.cell? ⟨wd.heap.size, 8, none⟩ = some (.string x.s2) := by have := ho.1 8 _ rfl; rwa [Nat.zero_add] at this
        have f9 : wo.cell? ⟨wd.heap.size, 9, none⟩ = some (.int .i64 x.s3) := by have := ho.1 9 _ rfl; rwa [Nat.zero_add] at this
        have f10 : wo.cell? ⟨wd.heap.size, 10, none⟩ = some (.string x.s4) := by have := ho.1 10 _ rfl; rwa [Nat.zero_add] at this
        have f11 : wo.cell? ⟨wd.heap.size, 11, none⟩ = some (.slice x.na x.nl x.nc) := by have := ho.1 11 _ rfl; rwa [Nat.zero_add] at this
        have f12 : wo.cell? ⟨wd.heap.size, 12, none⟩ = some (.slice x.va x.vl x.vc) := by have := ho.1 12 _ rfl; rwa [Nat.zero_add] at this
        have f13 : wo.cell? ⟨wd.heap.size, 13, none⟩ = some (.string x.h0) := by have := ho.1 13 _ rfl; rwa [Nat.zero_add] at this
        have f14 : wo.cell? ⟨wd.heap.size, 14, none⟩ = some (.int .i64 x.h1) := by have := ho.1 14 _ rfl; rwa [Nat.zero_add] at this
        have f15 : wo.cell? ⟨wd.heap.size, 15, none⟩ = some (.int .i64 x.h2) := by have := ho.1 15 _ rfl; rwa [Nat.zero_add] at this
        have f16 : wo.cell? ⟨wd.heap.size, 16, none⟩ = some (.int .i64 x.h3) := by have := ho.1 16 _ rfl; rwa [Nat.zero_add] at this
        have f17 : wo.cell? ⟨wd.heap.size, 17, none⟩ = some (.int .i64 x.rs) := by have := ho.1 17 _ rfl; rwa [Nat.zero_add] at this
        have f18 : wo.cell? ⟨wd.heap.size, 18, none⟩ = some (.int .i64 x.tr) := by have := ho.1 18 _ rfl; rwa [Nat.zero_add] at this
        have f19 : wo.cell? ⟨wd.heap.size, 19, none⟩ = some (.int .i64 x.id) := by have := ho.1 19 _ rfl; rwa [Nat.zero_add] at this
        have f20 : wo.cell? ⟨wd.heap.size, 20, none⟩ = some (.int .i64 x.what) := by have := ho.1 20 _ rfl; rwa [Nat.zero_add] at this
        have f21 : wo.cell? ⟨wd.heap.size, 21, none⟩ = some (.int .i64 x.e) := by have := ho.1 21 _ rfl; rwa [Nat.zero_add] at this
        have g0 : wo.cell? ⟨wd.heap.size + 1, 0, none⟩ = some (.int .i64 x.a0) := by have := ho.2 0 _ rfl; rwa [Nat.zero_add] at this
        have g1 : wo.cell? ⟨wd.heap.size + 1, 1, none⟩ = some (.int .i64 x.kind) := by have := ho.2 1 _ rfl; rwa [Nat.zero_add] at this
        have g2 : wo.cell? ⟨wd.heap.size + 1, 2, none⟩ = some (.string x.proj) := by have := ho.2 2 _ rfl; rwa [Nat.zero_add] at this
        have g3 : wo.cell? ⟨wd.heap.size + 1, 3, none⟩ = some (.int .i64 x.ck) := by have := ho.2 3 _ rfl; rwa [Nat.zero_add] at this
        have g4 : wo.cell? ⟨wd.heap.size + 1, 4, none⟩ = some (.string x.cn) := by have := ho.2 4 _ rfl; rwa [Nat.zero_add] at this
        have g5 : wo.cell? ⟨wd.heap.size + 1, 5, none⟩ = some (.int .i64 x.ci) := by have := ho.2 5 _ rfl; rwa [Nat.zero_add] at this
        have g6 : wo.cell? ⟨wd.heap.size + 1, 6, none⟩ = some (.string x.s0) := by have := ho.2 6 _ rfl; rwa [Nat.zero_add] at this
        have g7 : wo.cell? ⟨wd.heap.size + 1, 7, none⟩ = some (.string x.s1) := by have := ho.2 7 _ rfl; rwa [Nat.zero_add] at this
        have g8 : wo.cell? ⟨wd.heap.size + 1, 8, none⟩ = some (.string x.s2) := by have := ho.2 8 _ rfl; rwa [Nat.zero_add] at this
        have g9 : wo.cell? ⟨wd.heap.size + 1, 9, none⟩ = some (.int .i64 x.s3) := by have := ho.2 9 _ rfl; rwa [Nat.zero_add] at this
        have g10 : wo.cell? ⟨wd.heap.size + 1, 10, none⟩ = some (.string x.s4) := by have := ho.2 10 _ rfl; rwa [Nat.zero_add] at this
        have g11 : wo.cell? ⟨wd.heap.size + 1, 11, none⟩ = some (.slice x.na x.nl x.nc) := by have := ho.2 11 _ rfl; rwa [Nat.zero_add] at this
        have g12 : wo.cell? ⟨wd.heap.size + 1, 12, none⟩ = some (.slice x.va x.vl x.vc) := by have := ho.2 12 _ rfl; rwa [Nat.zero_add] at this
        have g13 : wo.cell? ⟨wd.heap.size + 1, 13, none⟩ = some (.string x.h0) := by have := ho.2 13 _ rfl; rwa [Nat.zero_add] at this
        have g14 : wo.cell? ⟨wd.heap.size + 1, 14, none⟩ = some (.int .i64 x.h1) := by have := ho.2 14 _ rfl; rwa [Nat.zero_add] at this
        have g15 : wo.cell? ⟨wd.heap.size + 1, 15, none⟩ = some (.int .i64 x.h2) := by have := ho.2 15 _ rfl; rwa [Nat.zero_add] at this
        have g16 : wo.cell? ⟨wd.heap.size + 1, 16, none⟩ = some (.int .i64 x.h3) := by have := ho.2 16 _ rfl; rwa [Nat.zero_add] at this
        have g17 : wo.cell? ⟨wd.heap.size + 1, 17, none⟩ = some (.int .i64 x.rs) := by have := ho.2 17 _ rfl; rwa [Nat.zero_add] at this
        have g18 : wo.cell? ⟨wd.heap.size + 1, 18, none⟩ = some (.int .i64 x.tr) := by have := ho.2 18 _ rfl; rwa [Nat.zero_add] at this
        have g19 : wo.cell? ⟨wd.heap.size + 1, 19, none⟩ = some (.int .i64 x.id) := by have := ho.2 19 _ rfl; rwa [Nat.zero_add] at this
        have g20 : wo.cell? ⟨wd.heap.size + 1, 20, none⟩ = some (.int .i64 x.what) := by have := ho.2 20 _ rfl; rwa [Nat.zero_add] at this
        have g21 : wo.cell? ⟨wd.heap.size + 1, 21, none⟩ = some (.int .i64 x.e) := by have := ho.2 21 _ rfl; rwa [Nat.zero_add] at this
        have HRd := Lib.hid (HX.out.keep hbo)
        generalize cs.toArray = ca at *
        clear ho hcl hcz HO HCS hbd hz1 hz2 HX
        generalize wd.heap.size + 1 = Bn at *
        generalize wd.heap.size = Bo at *
        go_wp2_with fail
        refine (kSameCall x _ HRd.out).mono ?_
        rintro e w1 ⟨rfl, hb1⟩
        have hb2 := hbo.trans (hb1.mono hbo.size)
        clear hb1
        go_wp2_with fail
        exact ⟨⟨k + 1, by omega, by go_num, hb2⟩, by simp [intOf]; omega⟩
      · go_simp
        refine hK.out _ _ ⟨World.rangeAt_alloc hS0.1 _, World.rangeAt_alloc hS0.2 _⟩ (fun hS1 => ?_)
        clear hK K
        refine wpAnyH_ready (rs := [8]) (by kernel_rfl) (by simp) ?_
        refine AllReadyH.cons rfl (fun K hK => ?_) AllReadyH.nil
        go_simp
        refine hK.out _ _ ⟨World.rangeAt_alloc hS1.1 _, World.rangeAt_alloc hS1.2 _⟩ (fun hS2 => ?_)
        clear hK K
        have t1 : ((wd.alloc (.cells #[.int .i64 0, .int .i64 0, .string ⟨#[]⟩, .int .i64 0, .string ⟨#[]⟩, .int .i64 0, .string ⟨#[]⟩, .string ⟨#[]⟩, .string ⟨#[]⟩, .int .i64 0, .string ⟨#[]⟩, .slice none 0 0, .slice none 0 0, .string ⟨#[]⟩, .int .i64 0, .int .i64 0, .int .i64 0, .int .i64 0, .int .i64 0, .int .i64 0, .int .i64 0, .int .i64 0] 36)).alloc (.cells #[.int .i64 0, .int .i64 0, .string ⟨#[]⟩, .int .i64 0, .string ⟨#[]⟩, .int .i64 0, .string ⟨#[]⟩, .string ⟨#[]⟩, .string ⟨#[]⟩, .int .i64 0, .string ⟨#[]⟩, .slice none 0 0, .slice none 0 0, .string ⟨#[]⟩, .int .i64 0, .int .i64 0, .int .i64 0, .int .i64 0, .int .i64 0, .int .i64 0, .int .i64 0, .int .i64 0] 36)).there wd.heap.size 0 22 := World.there_alloc (there_newN _ _ _ rfl (by decide)) _
        have t2 : ((wd.alloc (.cells #[.int .i64 0, .int .i64 0, .string ⟨#[]⟩, .int .i64 0, .string ⟨#[]⟩, .int .i64 0, .string ⟨#[]⟩, .string ⟨#[]⟩, .string ⟨#[]⟩, .int .i64 0, .string ⟨#[]⟩, .slice none 0 0, .slice none 0 0, .string ⟨#[]⟩, .int .i64 0, .int .i64 0, .int .i64 0, .int .i64 0, .int .i64 0, .int .i64 0, .int .i64 0, .int .i64 0] 36)).alloc (.cells #[.int .i64 0, .int .i64 0, .string ⟨#[]⟩, .int .i64 0, .string ⟨#[]⟩, .int .i64 0, .string ⟨#[]⟩, .string ⟨#[]⟩, .string ⟨#[]⟩, .int .i64 0, .string ⟨#[]⟩, .slice none 0 0, .slice none 0 0, .string ⟨#[]⟩, .int .i64 0, .int .i64 0, .int .i64 0, .int .i64 0, .int .i64 0, .int .i64 0, .int .i64 0, .int .i64 0] 36)).there (wd.heap.size + 1) 0 22 := there_newN _ _ _ (by simp) (by decide)
        have hb3 : Below w.heap.size w ((wd.alloc (.cells #[.int .i64 0, .int .i64 0, .string ⟨#[]⟩, .int .i64 0, .string ⟨#[]⟩, .int .i64 0, .string ⟨#[]⟩, .string ⟨#[]⟩, .string ⟨#[]⟩, .int .i64 0, .string ⟨#[]⟩, .slice none 0 0, .slice none 0 0, .string ⟨#[]⟩, .int .i64 0, .int .i64 0, .int .i64 0, .int .i64 0, .int .i64 0, .int .i64 0, .int .i64 0, .int .i64 0] 36)).alloc (.cells #[.int .i64 0, .int .i64 0, .string ⟨#[]⟩, .int .i64 0, .string ⟨#[]⟩, .int .i64 0, .string ⟨#[]⟩, .string ⟨#[]⟩, .string ⟨#[]⟩, .int .i64 0, .string ⟨#[]⟩, .slice none 0 0, .slice none 0 0, .string ⟨#[]⟩, .int .i64 0, .int .i64 0, .int .i64 0, .int .i64 0, .int .i64 0, .int .i64 0, .int .i64 0, .int .i64 0] 36)) := (hbd.alloc hbd.size _).alloc (by have := hbd.size; simp; omega) _
        generalize (wd.alloc (.cells #[.int .i64 0, .int .i64 0, .string ⟨#[]⟩, .int .i64 0, .string ⟨#[]⟩, .int .i64 0, .string ⟨#[]⟩, .string ⟨#[]⟩, .string ⟨#[]⟩, .int .i64 0, .string ⟨#[]⟩, .slice none 0 0, .slice none 0 0, .string ⟨#[]⟩, .int .i64 0, .int .i64 0, .int .i64 0, .int .i64 0, .int .i64 0, .int .i64 0, .int .i64 0, .int .i64 0] 36)).alloc (.cells #[.int .i64 0, .int .i64 0, .string ⟨#[]⟩, .int .i64 0, .string ⟨#[]⟩, .int .i64 0, .string ⟨#[]⟩, .string ⟨#[]⟩, .string ⟨#[]⟩, .int .i64 0, .string ⟨#[]⟩, .slice none 0 0, .slice none 0 0, .string ⟨#[]⟩, .int .i64 0, .int .i64 0, .int .i64 0, .int .i64 0, .int .i64 0, .int .i64 0, .int .i64 0, .int .i64 0] 36) = we at *
        refine wpAnyH_ready (rs := [10]) (by kernel_rfl) (by simp) ?_
        refine AllReadyH.cons rfl (fun K hK => ?_) AllReadyH.nil
        rw [if_pos (by rfl)]
        refine wp_store_mid 36 _ _ rfl (wd.heap.size + 1) 0 cs.toArray rfl rfl (by rw [hcz]; exact t2) (by rw [hcz]; exact infoRNsz) HO.out ?_
        refine hK.out _ _ ⟨World.rangeAt_setCells_apart hS2.1 _ _ _ (.inl (by omega)), World.rangeAt_setCells_apart hS2.2 _ _ _ (.inl (by omega))⟩ (fun hS3 => ?_)
        clear hK K
        refine wpAnyH_ready (rs := [11]) (by kernel_rfl) (by simp) ?_
        refine AllReadyH.cons rfl (fun K hK => ?_) AllReadyH.nil
        rw [if_pos (by rfl)]
        refine wp_store_mid 36 _ _ rfl (wd.heap.size) 0 cs.toArray rfl rfl (by rw [hcz]; exact (World.there_setCells t1 _ _ _)) (by rw [hcz]; exact infoRNsz) HO.out ?_
        refine hK.out _ _ ⟨World.rangeAt_setCells_apart hS3.1 _ _ _ (.inl (by omega)), World.rangeAt_setCells_apart hS3.2 _ _ _ (.inl (by omega))⟩ (fun hS4 => ?_)
        clear hK K
        refine wpAnyH_done (by kernel_rfl) ?_ _
        obtain ⟨wo, hwo⟩ : ∃ wo, wo = (we.setCells (wd.heap.size + 1) 0 cs.toArray.toList).setCells (wd.heap.size) 0 cs.toArray.toList := ⟨_, rfl⟩
        have ho : wo.rangeAt (wd.heap.size + 1) 0 cs ∧ wo.rangeAt (wd.heap.size) 0 cs := by rw [hwo]; exact twoA (by omega) hcl t2 t1
        have hbo : Below w.heap.size w wo := by rw [hwo]; exact below_setCells _ _ _ (below_setCells _ _ _ hb3 (by have := hbd.size; omega)) (by have := hbd.size; omega)
        rw [← hwo]
        clear hwo hS1 hS2 hS3 hS4 hS0 t1 t2 hb3
        rw [HCS.out] at ho
        have f0 : wo.cell? ⟨wd.heap.size + 1, 0, none⟩ = some (.int .i64 x.a0) := by have := ho.1 0 _ rfl; rwa [Nat.zero_add] at this
        have f1 : wo.cell? ⟨wd.heap.size + 1, 1, none⟩ = some (.int .i64 x.kind) := by have := ho.1 1 _ rfl; rwa [Nat.zero_add] at this
        have f2 : wo.cell? ⟨wd.heap.size + 1, 2, none⟩ = some (.string x.proj) := by have := ho.1 2 _ rfl; rwa [Nat.zero_add] at this
        have f3 : wo.cell? ⟨wd.heap.size + 1, 3, none⟩ = some (.int .i64 x.ck) := by have := ho.1 3 _ rfl; rwa [Nat.zero_add] at this
        have f4 : wo.cell? ⟨wd.heap.size + 1, 4, none⟩ = some (.string x.cn) := by have := ho.1 4 _ rfl; rwa [Nat.zero_add] at this
        have f5 : wo.cell? ⟨wd.heap.size + 1, 5, none⟩ = some (.int .i64 x.ci) := by have := ho.1 5 _ rfl; rwa [Nat.zero_add] at this
        have f6 : wo.cell? ⟨wd.heap.size + 1, 6, none⟩ = some (.string x.s0) := by have := ho.1 6 _ rfl; rwa [Nat.zero_add] at this
        have f7 : wo.cell? ⟨wd.heap.size + 1, 7, none⟩ = some (.string x.s1) := by have := ho.1 7 _ rfl; rwa [Nat.zero_add] at this
        have f8 : wo.cell? ⟨wd.heap.size + 1, 8, none⟩ = some (.string x.s2) := by have := ho.1 8 _ rfl; rwa [Nat.zero_add] at this
        have f9 : wo.cell? ⟨wd.heap.size + 1, 9, none⟩ = some (.int .i64 x.s3) := by have := ho.1 9 _ rfl; rwa [Nat.zero_add] at this
        have f10 : wo.cell? ⟨wd.heap.size + 1, 10, none⟩ = some (.string x.s4) := by have := ho.1 10 _ rfl; rwa [Nat.zero_add] at this
        have f11 : wo.cell? ⟨wd.heap.size + 1, 11, none⟩ = some (.slice x.na x.nl x.nc) := by have := ho.1 11 _ rfl; rwa [Nat.zero_add] at this
        have f12 : wo.cell? ⟨wd.heap.size + 1, 12, none⟩ = some (.slice x.va x.vl x.vc) := by have := ho.1 12 _ rfl; rwa [Nat.zero_add] at this
        have f13 : wo.cell? ⟨wd.heap.size + 1, 13, none⟩ = some (.string x.h0) := by have := ho.1 13 _ rfl; rwa [Nat.zero_add] at this
        have f14 : wo.cell? ⟨wd.heap.size + 1, 14, none⟩ = some (.int .i64 x.h1) := by have := ho.1 14 _ rfl; rwa [Nat.zero_add] at this
        have f15 : wo.cell? ⟨wd.heap.size + 1, 15, none⟩ = some (.int .i64 x.h2) := by have := ho.1 15 _ rfl; rwa [Nat.zero_add] at this
        have f16 : wo.cell? ⟨wd.heap.size + 1, 16, none⟩ = some (.int .i64 x.h3) := by have := ho.1 16 _ rfl; rwa [Nat.zero_add] at this
        have f17 : wo.cell? ⟨wd.heap.size + 1, 17, none⟩ = some (.int .i64 x.rs) := by have := ho.1 17 _ rfl; rwa [Nat.zero_add] at this
        have f18 : wo.cell? ⟨wd.heap.size + 1, 18, none⟩ = some (.int .i64 x.tr) := by have := ho.1 18 _ rfl; rwa [Nat.zero_add] at this
        have f19 : wo.cell? ⟨wd.heap.size + 1, 19, none⟩ = some (.int .i64 x.id) := by have := ho.1 19 _ rfl; rwa [Nat.zero_add] at this
        have f20 : wo.cell? ⟨wd.heap.size + 1, 20, none⟩ = some (.int .i64 x.what) := by have := ho.1 20 _ rfl; rwa [Nat.zero_add] at this
        have f21 : wo.cell? ⟨wd.heap.size + 1, 21, none⟩ = some (.int .i64 x.e) := by have := ho.1 21 _ rfl; rwa [Nat.zero_add] at this
        have g0 : wo.cell? ⟨wd.heap.size, 0, none⟩ = some (.int .i64 x.a0) := by have := ho.2 0 _ rfl; rwa [Nat.zero_add] at this
        have g1 : wo.cell? ⟨wd.heap.size, 1, none⟩ = some (.int .i64 x.kind) := by have := ho.2 1 _ rfl; rwa [Nat.zero_add] at this
        have g2 : wo.cell? ⟨wd.heap.size, 2, none⟩ = some (.string x.proj) := by have := ho.2 2 _ rfl; rwa [Nat.zero_add] at this
        have g3 : wo.cell? ⟨wd.heap.size, 3, none⟩ = some (.int .i64 x.ck) := by have := ho.2 3 _ rfl; rwa [Nat.zero_add] at this
        have g4 : wo.cell? ⟨wd.heap.size, 4, none⟩ = some (.string x.cn) := by have := ho.2 4 _ rfl; rwa [Nat.zero_add] at this
        have g5 : wo.cell? ⟨wd.heap.size, 5, none⟩ = some (.int .i64 x.ci) := by have := ho.2 5 _ rfl; rwa [Nat.zero_add] at this
        have g6 : wo.cell? ⟨wd.heap.size, 6, none⟩ = some (.string x.s0) := by have := ho.2 6 _ rfl; rwa [Nat.zero_add] at this
        have g7 : wo.cell? ⟨wd.heap.size, 7, none⟩ = some (.string x.s1) := by have := ho.2 7 _ rfl; rwa [Nat.zero_add] at this
        have g8 : wo.cell? ⟨wd.heap.size, 8, none⟩ = some (.string x.s2) := by have := ho.2 8 _ rfl; rwa [Nat.zero_add] at this
        have g9 : wo.cell? ⟨wd.heap.size, 9, none⟩ = some (.int .i64 x.s3) := by have := ho.2 9 _ rfl; rwa [Nat.zero_add] at this
        have g10 : wo.cell? ⟨wd.heap.size, 10, none⟩ = some (.string x.s4) := by have := ho.2 10 _ rfl; rwa [Nat.zero_add] at this
        have g11 : wo.cell? ⟨wd.heap.size, 11, none⟩ = some (.slice x.na x.nl x.nc) := by have := ho.2 11 _ rfl; rwa [Nat.zero_add] at this
        have g12 : wo.cell? ⟨wd.heap.size, 12, none⟩ = some (.slice x.va x.vl x.vc) := by have := ho.2 12 _ rfl; rwa [Nat.zero_add] at this
        have g13 : wo.cell? ⟨wd.heap.size, 13, none⟩ = some (.string x.h0) := by have := ho.2 13 _ rfl; rwa [Nat.zero_add] at this
        have g14 : wo.cell? ⟨wd.heap.size, 14, none⟩ = some (.int .i64 x.h1) := by have := ho.2 14 _ rfl; rwa [Nat.zero_add] at this
        have g15 : wo.cell? ⟨wd.heap.size, 15, none⟩ = some (.int .i64 x.h2) := by have := ho.2 15 _ rfl; rwa [Nat.zero_add] at this
        have g16 : wo.cell? ⟨wd.heap.size, 16, none⟩ = some (.int .i64 x.h3) := by have := ho.2 16 _ rfl; rwa [Nat.zero_add] at this
        have g17 : wo.cell? ⟨wd.heap.size, 17, none⟩ = some (.int .i64 x.rs) := by have := ho.2 17 _ rfl; rwa [Nat.zero_add] at this
        have g18 : wo.cell? ⟨wd.heap.size, 18, none⟩ = some (.int .i64 x.tr) := by have := ho.2 18 _ rfl; rwa [Nat.zero_add] at this
        have g19 : wo.cell? ⟨wd.heap.size, 19, none⟩ = some (.int .i64 x.id) := by have := ho.2 19 _ rfl; rwa [Nat.zero_add] at this
        have g20 : wo.cell? ⟨wd.heap.size, 20, none⟩ = some (.int .i64 x.what) := by have := ho.2 20 _ rfl; rwa [Nat.zero_add] at this
        have g21 : wo.cell? ⟨wd.heap.size, 21, none⟩ = some (.int .i64 x.e) := by have := ho.2 21 _ rfl; rwa [Nat.zero_add] at this
        have HRd := Lib.hid (HX.out.keep hbo)
        generalize cs.toArray = ca at *
        clear ho hcl hcz HO HCS hbd hz1 hz2 HX
        generalize wd.heap.size + 1 = Bn at *
        generalize wd.heap.size = Bo at *
        go_wp2_with fail
        refine (kSameCall x _ HRd.out).mono ?_
        rintro e w1 ⟨rfl, hb1⟩
        have hb2 := hbo.trans (hb1.mono hbo.size)
        clear hb1
        go_wp2_with fail
        exact ⟨⟨k + 1, by omega, by go_num, hb2⟩, by simp [intOf]; omega⟩
    · go_wp2_with fail
      go_ret
      exact ⟨rfl, hbl⟩
end Go.Proofs.Ytcphneofdjelpaa.W
