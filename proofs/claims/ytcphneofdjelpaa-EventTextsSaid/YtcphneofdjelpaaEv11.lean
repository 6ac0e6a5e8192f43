/- A note as text: where its words stand. -/
import Derived.Test.YtcphneofdjelpaaEv10
namespace Go.Proofs.Ytcphneofdjelpaa.W
open Go.RowKit Go.Proofs.Ytcphneofdjelpaa.Pl

/-- a world behind w whose block B holds the note -/
structure Pw (w : World) (x : NV) (B : Nat) (W : World) : Prop where
  box : ∀ (j : Nat) u, x.cells[j]? = some u → W.cell? ⟨B, j, none⟩ = some u
  below : Below B w W
  lt : B < W.heap.size
theorem Pw.keep {w : World} {x : NV} {B : Nat} {W W' : World} (h : Pw w x B W) (hb : Below W.heap.size W W') : Pw w x B W' :=
  ⟨fun j u hu => (hb.cell (p := ⟨B, j, none⟩) h.lt).trans (h.box j u hu), h.below.trans (hb.mono (Nat.le_of_lt h.lt)), Nat.lt_of_lt_of_le h.lt hb.size⟩
theorem Pw.alloc {w : World} {x : NV} {B : Nat} {W : World} (h : Pw w x B W) (o : Obj) : Pw w x B (W.alloc o) := h.keep ((Below.refl _ _).alloc (Nat.le_refl _) o)
theorem Pw.drew {w : World} {x : NV} {B : Nat} {W : World} (h : Pw w x B W) : Pw w x B W.drew := ⟨h.box, h.below.drew, h.lt⟩
theorem Pw.keepOwn {w : World} {x : NV} {B : Nat} {W W' : World} (h : Pw w x B W) (hb : Below (B + 1) W W') : Pw w x B W' :=
  ⟨fun j u hu => (hb.cell (p := ⟨B, j, none⟩) (Nat.lt_succ_self B)).trans (h.box j u hu), h.below.trans (hb.mono (Nat.le_succ B)), Nat.lt_of_lt_of_le h.lt hb.size⟩
/-- where a note's text stands: the words so far in the variable at block g -/
def TxSt (w : World) (x : NV) (B g : Nat) (ws : List (List UInt8)) (wc : World) : Prop := ∃ v, wc.heap[g]? = some (.cells #[v] 27 (0, 0)) ∧ wc.ownsRow (B + 1) 9 1 v ws.length (strs ws).toList ∧ Pw w x B wc ∧ B < g
theorem TxSt.pw {w : World} {x : NV} {B g : Nat} {ws : List (List UInt8)} {W : World} (h : TxSt w x B g ws W) : Pw w x B W := h.elim fun _ h => h.2.2.1
theorem TxSt.keep {w : World} {x : NV} {B g : Nat} {ws : List (List UInt8)} {W W' : World} (h : TxSt w x B g ws W) (hb : Below W.heap.size W W') : TxSt w x B g ws W' := by
  obtain ⟨v, h1, h2, h3, h4⟩ := h
  have hg : g < W.heap.size := by
    rcases Nat.lt_or_ge g W.heap.size with h | h
    · exact h
    · rw [Array.getElem?_eq_none h] at h1; cases h1
  exact ⟨v, (hb.block g hg).trans h1, own_below5 h2 hb, h3.keep hb, h4⟩
theorem TxSt.alloc {w : World} {x : NV} {B g : Nat} {ws : List (List UInt8)} {W : World} (h : TxSt w x B g ws W) (o : Obj) : TxSt w x B g ws (W.alloc o) := h.keep ((Below.refl _ _).alloc (Nat.le_refl _) o)
theorem TxSt.drew {w : World} {x : NV} {B g : Nat} {ws : List (List UInt8)} {W : World} (h : TxSt w x B g ws W) : TxSt w x B g ws W.drew := h.keep ((Below.refl _ _).drew)
theorem strs_len (l : List (List UInt8)) : (strs l).size = l.length := by simp [strs]
theorem row_lit (ws : List (List UInt8)) (W : World) (B : Nat) (hB : B < W.heap.size) (hn : ws.length ≤ 100) : (W.alloc (.cells (strs ws) 9)).ownsRow (B + 1) 9 1 (.slice (some ⟨W.heap.size, 0, none⟩) ws.length ws.length) ws.length (strs ws).toList :=
  World.ownsRow_lit W (strs ws) ws.length hB (by unfold maxLen; omega) (by rw [strs_len]; omega)
theorem endA {w : World} {x : NV} {B n g g2 : Nat} {ws : List (List UInt8)} {W : World} (h : Pw w x B W) (hn : ws.length = n) (hn2 : n ≤ 100) (hg : g = W.heap.size + 1) (hg2 : g2 = W.heap.size) :
    TxSt w x B g ws ((W.alloc (.cells (strs ws) 9)).alloc (.cells #[.slice (some ⟨g2, 0, none⟩) n n] 27)) := by
  subst hn hg hg2
  exact ⟨_, heap_new2 _ _ _ _ rfl, (row_lit ws W B h.lt hn2).alloc _, (h.alloc _).alloc _, Nat.lt_succ_of_lt h.lt⟩
theorem endB {w : World} {x : NV} {B n g g2 : Nat} {ws : List (List UInt8)} {W : World} (h : Pw w x B W) (hn : ws.length = n) (hn2 : n ≤ 100) (hg : g = W.heap.size) (hg2 : g2 = W.heap.size + 1) :
    TxSt w x B g ws ((W.alloc (.cells #[.slice (some ⟨g2, 0, none⟩) n n] 27)).alloc (.cells (strs ws) 9)) := by
  subst hn hg hg2
  have hs : (W.alloc (.cells #[.slice (some ⟨W.heap.size + 1, 0, none⟩) ws.length ws.length] 27)).heap.size = W.heap.size + 1 := by simp
  have := row_lit ws (W.alloc (.cells #[.slice (some ⟨W.heap.size + 1, 0, none⟩) ws.length ws.length] 27)) B (h.alloc _).lt hn2
  rw [hs] at this
  exact ⟨_, by rw [Below.heap_alloc _ _ _ (by omega)]; exact heap_alloc_new _ _, this, (h.alloc _).alloc _, h.lt⟩
theorem endC {w : World} {x : NV} {B n g g2 : Nat} {z : Go.Value} {ws : List (List UInt8)} {W : World} (h : Pw w x B W) (hn : ws.length = n) (hn2 : n ≤ 100) (hg : W.heap[g]? = some (.cells #[z] 27 (0, 0))) (hBg : B < g) (hg2 : g2 = W.heap.size) :
    TxSt w x B g ws ((W.setCell ⟨g, 0, none⟩ (.slice (some ⟨g2, 0, none⟩) n n)).alloc (.cells (strs ws) 9)) := by
  subst hn hg2
  have hs : (W.setCell ⟨g, 0, none⟩ (.slice (some ⟨W.heap.size, 0, none⟩) ws.length ws.length)).heap.size = W.heap.size := by simp [World.setCell]
  have hp : Pw w x B (W.setCell ⟨g, 0, none⟩ (.slice (some ⟨W.heap.size, 0, none⟩) ws.length ws.length)) := h.keepOwn ((Below.refl _ _).setCell hBg _)
  have := row_lit ws _ B hp.lt hn2
  rw [hs] at this
  have hglt : g < W.heap.size := by
    rcases Nat.lt_or_ge g W.heap.size with h | h
    · exact h
    · rw [Array.getElem?_eq_none h] at hg; cases hg
  exact ⟨_, by rw [Below.heap_alloc _ _ _ (by omega)]; exact setCell_heap_same hg, this, hp.alloc _, hBg⟩
theorem endA2 {w : World} {x : NV} {B : Nat} {a b : List UInt8} {W : World} (h : Pw w x B W) :
    TxSt w x B (W.heap.size + 1) [a, b] ((W.alloc (.cells #[.string (bs a), .string (bs b)] 9)).alloc (.cells #[.slice (some ⟨W.heap.size, 0, none⟩) 2 2] 27)) := endA (ws := [a, b]) h rfl (by decide) rfl rfl
theorem endB2 {w : World} {x : NV} {B : Nat} {a b : List UInt8} {W : World} (h : Pw w x B W) :
    TxSt w x B W.heap.size [a, b] ((W.alloc (.cells #[.slice (some ⟨W.heap.size + 1, 0, none⟩) 2 2] 27)).alloc (.cells #[.string (bs a), .string (bs b)] 9)) := endB (ws := [a, b]) h rfl (by decide) rfl rfl
theorem endC2 {w : World} {x : NV} {B g : Nat} {z : Go.Value} {a b : List UInt8} {W : World} (h : Pw w x B W) (hg : W.heap[g]? = some (.cells #[z] 27 (0, 0))) (hBg : B < g) :
    TxSt w x B g [a, b] ((W.setCell ⟨g, 0, none⟩ (.slice (some ⟨W.heap.size, 0, none⟩) 2 2)).alloc (.cells #[.string (bs a), .string (bs b)] 9)) := endC (ws := [a, b]) h rfl (by decide) hg hBg rfl
theorem keepW {P : Program} {f : FuncId} {args : Array Go.Value} {w : World} {x : NV} {B : Nat} {W : World} {v : Go.Value} (h : Calls P f args W fun e w' => e = .returned v ∧ Below W.heap.size W w') (hp : Pw w x B W) :
    Calls P f args W fun e w' => e = .returned v ∧ Below W.heap.size W w' ∧ Pw w x B w' ∧ B < w'.heap.size ∧ w'.cell? ⟨B, 0, none⟩ = some (.int .i64 x.a0) ∧ w'.cell? ⟨B, 1, none⟩ = some (.int .i64 x.kind) :=
  h.mono fun _ _ ⟨he, hb⟩ => ⟨he, hb, hp.keep hb, (hp.keep hb).lt, (hp.keep hb).box 0 _ rfl, (hp.keep hb).box 1 _ rfl⟩
theorem bcellE {W w1 : World} (hb : Below W.heap.size W w1) : (∀ b o, b < W.heap.size → w1.cell? ⟨b, o, none⟩ = W.cell? ⟨b, o, none⟩) ∧ (∀ b o, b < W.heap.size → w1.frozen? ⟨b, o, none⟩ = W.frozen? ⟨b, o, none⟩) :=
  ⟨fun b o h => hb.cell (p := ⟨b, o, none⟩) h, fun b o h => hb.frozen (p := ⟨b, o, none⟩) h⟩
/-- the variable's block, made ahead of the last call, or of the last two -/
theorem slot1 {w w2 : World} {C : Obj} (hb : Below (w.alloc C).heap.size (w.alloc C) w2) : w2.heap[w.heap.size]? = some C := (hb.block _ (by simp)).trans (heap_alloc_new w C)
theorem slot1d {w w2 : World} {C : Obj} (hb : Below (w.alloc C).drew.heap.size (w.alloc C).drew w2) : w2.heap[w.heap.size]? = some C := (hb.block _ (by show _ < (w.alloc C).heap.size; simp)).trans (heap_alloc_new w C)
theorem slot2 {w w2 w3 : World} {C : Obj} (h : w2.heap[w.heap.size]? = some C) (hb : Below w2.heap.size w2 w3) : w3.heap[w.heap.size]? = some C := by
  refine (hb.block _ ?_).trans h
  rcases Nat.lt_or_ge w.heap.size w2.heap.size with h' | h'
  · exact h'
  · rw [Array.getElem?_eq_none h'] at h; cases h


/-- the words of a note -/
def noteWs (x : NV) : List (List UInt8) := [txt x.a0, wordN kindL x.kind] ++
  (if x.kind = 1 then [x.proj.data.toList, wordN cmdL x.what] ++ [errT x.e] else if x.kind = 2 ∨ x.kind = 9 then [callT x.ck x.cn x.s0 x.ci, txt x.id] ++ [errT x.e] else if x.kind = 4 then [errT x.e]
   else if x.kind = 5 then [txt x.id, txt x.what] else if x.kind = 6 then [txt x.id] else if x.kind = 7 then [txt x.id, probeT x.what] else [])
/-- a note as text -/
def noteT (x : NV) : List UInt8 := Lib.join (noteWs x) [32]
theorem joinTail_len {M : Nat} : ∀ (ws : List (List UInt8)), (∀ s ∈ ws, s.length ≤ M) → (Lib.joinTail [32] ws).length ≤ ws.length * (M + 1)
  | [], _ => by simp [Lib.joinTail]
  | s :: r, h => by
    have h1 := joinTail_len r (fun t ht => h t (List.mem_cons_of_mem _ ht))
    have h2 := h s List.mem_cons_self
    have e : Lib.joinTail [32] (s :: r) = ([32] ++ s) ++ Lib.joinTail [32] r := by simp [Lib.joinTail]
    have e3 : (s :: r).length * (M + 1) = r.length * (M + 1) + (M + 1) := by rw [List.length_cons, Nat.succ_mul]
    rw [e, List.length_append, List.length_append, e3]
    simp only [List.length_cons, List.length_nil]
    omega
theorem join_len {M : Nat} (ws : List (List UInt8)) (h : ∀ s ∈ ws, s.length ≤ M) : (Lib.join ws [32]).length ≤ ws.length * (M + 1) := by
  cases ws with
  | nil => simp [Lib.join_nil]
  | cons s r =>
    have h1 := joinTail_len r (fun t ht => h t (List.mem_cons_of_mem _ ht))
    have h2 := h s List.mem_cons_self
    rw [Lib.join_cons, List.length_append, List.length_cons, Nat.succ_mul]
    omega
theorem wordN_len {l : List (List UInt8)} {M : Nat} (h : ∀ s ∈ l, s.length ≤ M) (n : Int) : (wordN l n).length ≤ M := by
  unfold wordN
  split
  · exact Nat.zero_le _
  · rw [List.getD_eq_getElem?_getD]
    cases h' : l[(n - 1).toNat]? with
    | none => exact Nat.zero_le _
    | some s => exact h s (List.mem_of_getElem? h')
theorem errT_len (n : Int) : (errT n).length ≤ 200 := by
  unfold errT
  split
  · decide
  · rw [List.getD_eq_getElem?_getD]
    cases h' : errL[n.toNat]? with
    | none => exact Nat.zero_le _
    | some s => exact (show ∀ s ∈ errL, s.length ≤ 200 by decide) s (List.mem_of_getElem? h')
theorem probeT_len (n : Int) : (probeT n).length ≤ 200 := by
  unfold probeT
  split
  · decide
  · rw [List.getD_eq_getElem?_getD]
    cases h' : probeL[n.toNat]? with
    | none => exact Nat.zero_le _
    | some s => exact (show ∀ s ∈ probeL, s.length ≤ 200 by decide) s (List.mem_of_getElem? h')
/-- a note whose numbers and texts are within their bounds -/
structure NV.ok (x : NV) : Prop where
  a1 : -9223372036854775808 ≤ x.a0
  a2 : x.a0 ≤ 9223372036854775807
  c1 : -9223372036854775808 ≤ x.ci
  c2 : x.ci ≤ 9223372036854775807
  i1 : -9223372036854775808 ≤ x.id
  i2 : x.id ≤ 9223372036854775807
  w1 : -9223372036854775808 ≤ x.what
  w2 : x.what ≤ 9223372036854775807
  p : x.proj.size ≤ 200
  n : x.cn.size ≤ 200
  s : x.s0.size ≤ 200
theorem callT_len {ck : Int} {cn s0 : ByteArray} {ci : Int} (h1 : cn.size ≤ 200) (h2 : s0.size ≤ 200) (h3 : -9223372036854775808 ≤ ci) (h4 : ci ≤ 9223372036854775807) : (callT ck cn s0 ci).length ≤ 220 := by
  unfold callT
  have h5 := wordN_len (l := callL) (M := 10) (by decide) ck
  have h6 := txt_len h3 h4
  have e1 : cn.data.toList.length = cn.size := by rw [Array.length_toList]; rfl
  have e2 : s0.data.toList.length = s0.size := by rw [Array.length_toList]; rfl
  split
  · decide
  · rw [List.length_append, List.length_cons]
    split
    · omega
    · split <;> omega
theorem noteT_len {x : NV} (h : x.ok) : (noteT x).length ≤ 1105 := by
  have hw : (noteWs x).length ≤ 5 := by
    unfold noteWs
    rw [List.length_append]
    have : ([txt x.a0, wordN kindL x.kind]).length = 2 := rfl
    rw [this]
    repeat' split
    all_goals simp
  have hl := join_len (M := 220) (noteWs x) (fun s hs => by
    have t1 := txt_len h.a1 h.a2
    have t2 := txt_len h.i1 h.i2
    have t3 := txt_len h.w1 h.w2
    have t4 := wordN_len (l := kindL) (M := 10) (by decide) x.kind
    have t5 := wordN_len (l := cmdL) (M := 10) (by decide) x.what
    have t6 := errT_len x.e
    have t7 := probeT_len x.what
    have t8 := callT_len (ck := x.ck) h.n h.s h.c1 h.c2
    have t9 : x.proj.data.toList.length ≤ 200 := by rw [Array.length_toList]; exact h.p
    unfold noteWs at hs
    rcases List.mem_append.1 hs with hs | hs
    · simp only [List.mem_cons, List.not_mem_nil, or_false] at hs
      rcases hs with rfl | rfl <;> omega
    · revert hs
      repeat' split
      all_goals
        intro hs
        simp only [List.mem_append, List.mem_cons, List.not_mem_nil, or_false] at hs <;>
        first
          | (rcases hs with (rfl | rfl) | rfl <;> omega)
          | (rcases hs with rfl | rfl <;> omega)
          | (subst hs; omega))
  have : (noteWs x).length * (220 + 1) ≤ 5 * 221 := Nat.mul_le_mul_right _ hw
  unfold noteT
  omega

theorem noteT_1 {x : NV} (h : x.kind = 1) : noteT x = Lib.join ([txt x.a0, wordN kindL x.kind] ++ [x.proj.data.toList, wordN cmdL x.what] ++ [errT x.e]) [32] := by
  unfold noteT noteWs; rw [if_pos h, List.append_assoc]
theorem noteT_2 {x : NV} (h : x.kind = 2 ∨ x.kind = 9) : noteT x = Lib.join ([txt x.a0, wordN kindL x.kind] ++ [callT x.ck x.cn x.s0 x.ci, txt x.id] ++ [errT x.e]) [32] := by
  unfold noteT noteWs; rw [if_neg (by omega), if_pos h, List.append_assoc]
theorem noteT_4 {x : NV} (h : x.kind = 4) : noteT x = Lib.join ([txt x.a0, wordN kindL x.kind] ++ [errT x.e]) [32] := by
  unfold noteT noteWs; rw [if_neg (by omega), if_neg (by omega), if_pos h]
theorem noteT_5 {x : NV} (h : x.kind = 5) : noteT x = Lib.join ([txt x.a0, wordN kindL x.kind] ++ [txt x.id, txt x.what]) [32] := by
  unfold noteT noteWs; rw [if_neg (by omega), if_neg (by omega), if_neg (by omega), if_pos h]
theorem noteT_6 {x : NV} (h : x.kind = 6) : noteT x = Lib.join ([txt x.a0, wordN kindL x.kind] ++ [txt x.id]) [32] := by
  unfold noteT noteWs; rw [if_neg (by omega), if_neg (by omega), if_neg (by omega), if_neg (by omega), if_pos h]
theorem noteT_7 {x : NV} (h : x.kind = 7) : noteT x = Lib.join ([txt x.a0, wordN kindL x.kind] ++ [txt x.id, probeT x.what]) [32] := by
  unfold noteT noteWs; rw [if_neg (by omega), if_neg (by omega), if_neg (by omega), if_neg (by omega), if_neg (by omega), if_pos h]
theorem noteT_0 {x : NV} (h1 : ¬ x.kind = 1) (h2 : ¬ x.kind = 2) (h9 : ¬ x.kind = 9) (h4 : ¬ x.kind = 4) (h5 : ¬ x.kind = 5) (h6 : ¬ x.kind = 6) (h7 : ¬ x.kind = 7) : noteT x = Lib.join [txt x.a0, wordN kindL x.kind] [32] := by
  unfold noteT noteWs; rw [if_neg (by omega), if_neg (by omega), if_neg (by omega), if_neg (by omega), if_neg (by omega), if_neg (by omega), List.append_nil]
/-- a call that makes memory keeps the words -/
theorem keepT {P : Program} {f : FuncId} {args : Array Go.Value} {w : World} {x : NV} {B g : Nat} {ws : List (List UInt8)} {W : World} {v : Go.Value} (h : Calls P f args W fun e w' => e = .returned v ∧ Below W.heap.size W w') (hp : TxSt w x B g ws W) :
    Calls P f args W fun e w' => e = .returned v ∧ TxSt w x B g ws w' ∧ w'.cell? ⟨B, 2, none⟩ = some (.string x.proj) ∧ w'.cell? ⟨B, 20, none⟩ = some (.int .i64 x.what) :=
  h.mono fun _ _ ⟨he, hb⟩ => ⟨he, hp.keep hb, (hp.keep hb).pw.box 2 _ rfl, (hp.keep hb).pw.box 20 _ rfl⟩

/-- the closure adds words -/
theorem addSt {w : World} {x : NV} {B g n : Nat} {ws : List (List UInt8)} {W : World} (news : List (List UInt8)) (h : TxSt w x B g ws W) (hn : news.length = n) (h0 : 0 < n) (hl : ws.length + n ≤ 100) :
    Calls Try.prog 26 #[.slice (some ⟨W.heap.size, 0, none⟩) n n, .pointer (some ⟨g, 0, none⟩)] (W.alloc (.cells (strs news) 9)) fun e w' => e = .returned (.tuple #[]) ∧ TxSt w x B g (ws ++ news) w' := by
  subst hn
  have ha := h.alloc (.cells (strs news) 9)
  obtain ⟨v, h1, h2, h3, h4⟩ := ha
  refine (kAdd (B + 1) g W.heap.size ws.length news.length news.length v (strs ws).toList (strs news).toList _ h4 h1 h2 (by rw [Array.length_toList, strs_len]) h0 hl (fun j u hu => ?_) (fun u hu => ?_)).mono ?_
  · rw [World.cell?_alloc_at _ _ _ _ rfl]; simpa using hu
  · obtain ⟨s, _, rfl⟩ := List.mem_map.1 (show u ∈ news.map fun s => Go.Value.string (bs s) from hu); rfl
  · rintro e w' ⟨he, v', g1, g2, g3, _⟩
    refine ⟨he, v', g1, ?_, h3.keepOwn g3, h4⟩
    have e1 : (strs (ws ++ news)).toList = (strs ws).toList ++ (strs news).toList := by simp [strs]
    rw [e1, List.length_append]
    exact g2
theorem add1 {w : World} {x : NV} {B g : Nat} {ws : List (List UInt8)} {W : World} {a : ByteArray} (h : TxSt w x B g ws W) (hl : ws.length ≤ 90) :
    Calls Try.prog 26 #[.slice (some ⟨W.heap.size, 0, none⟩) 1 1, .pointer (some ⟨g, 0, none⟩)] (W.alloc (.cells #[.string a] 9)) fun e w' => e = .returned (.tuple #[]) ∧ TxSt w x B g (ws ++ [a.data.toList]) w' := by
  have := addSt [a.data.toList] h rfl (by simp) (by simp; omega)
  rw [show strs [a.data.toList] = #[.string a] by simp [strs, bs_of]] at this
  exact this
theorem add2 {w : World} {x : NV} {B g : Nat} {ws : List (List UInt8)} {W : World} {a b : ByteArray} (h : TxSt w x B g ws W) (hl : ws.length ≤ 90) :
    Calls Try.prog 26 #[.slice (some ⟨W.heap.size, 0, none⟩) 2 2, .pointer (some ⟨g, 0, none⟩)] (W.alloc (.cells #[.string a, .string b] 9)) fun e w' => e = .returned (.tuple #[]) ∧ TxSt w x B g (ws ++ [a.data.toList, b.data.toList]) w' := by
  have := addSt [a.data.toList, b.data.toList] h rfl (by simp) (by simp; omega)
  rw [show strs [a.data.toList, b.data.toList] = #[.string a, .string b] by simp [strs, bs_of]] at this
  exact this
/-- the words joined -/
theorem joinSt {w : World} {x : NV} {B g : Nat} {ws : List (List UInt8)} {W : World} (h : TxSt w x B g ws W) (h0 : 0 < ws.length) (hl : ws.length ≤ 90) (hlen : (Lib.join ws [32]).length ≤ 100000) :
    ∃ v, W.cell? ⟨g, 0, none⟩ = some v ∧ Calls Try.prog 29 #[v, .string ⟨#[32]⟩] W fun e w' => e = .returned (.string (bs (Lib.join ws [32]))) ∧ Below B w w' := by
  obtain ⟨v, h1, h2, h3, h4⟩ := h
  obtain ⟨g1, cap, rfl, hb1, hlt⟩ := h2.form h0
  refine ⟨_, by rw [cell_of_row W g 0 _ _ _ h1]; rfl, ?_⟩
  have hcap : ws.length ≤ cap := by
    rcases h2.2 with ⟨h', _⟩ | ⟨g', cap', cur, h', _, hg, hc, _⟩
    · simp at h'
    · simp only [Value.slice.injEq, Option.some.injEq, Addr.mk.injEq, and_true, true_and] at h'
      obtain ⟨rfl, rfl⟩ := h'
      exact hc
  have hm : (ws.map bs).map (·.data.toList) = ws := by rw [List.map_map]; exact (List.map_congr_left fun s _ => bs_data s).trans (List.map_id _)
  have hj := Try.strings_Join g1 0 cap (ws.map bs) ⟨#[32]⟩ W (fun j s hs => by
    rw [List.getElem?_map] at hs
    obtain ⟨t, ht, rfl⟩ := Option.map_eq_some_iff.1 hs
    have hj : j < ws.length := (List.getElem?_eq_some_iff.1 ht).1
    rw [Nat.zero_add, h2.cellAt j (by omega)]
    exact strs_at ht) hlt (by rw [List.length_map]; omega) (by rw [List.length_map]; exact hcap) (by rw [hm]; exact Nat.le_trans hlen (by decide))
  rw [hm, List.length_map] at hj
  exact hj.mono fun e w' ⟨he, hb⟩ => ⟨he, h3.below.trans (hb.mono (Nat.le_of_lt h3.lt))⟩
end Go.Proofs.Ytcphneofdjelpaa.W
