/- Plain laws on the burden of a project. -/
import Derived.Test.YtglihjdbbpohlaaPlSu
import Derived.Test.YtglihjdbbpohlaaPlU
namespace Go.Proofs.Ytglihjdbbpohlaa.Pl
/-- how many replicas count -/
def reps (r : Int) : Nat := (min r 8).toNat
theorem reps_le (r : Int) : reps r ≤ 8 := by unfold reps; omega
/-- the burdens of the first k services, replica by replica -/
def lst (c m r : Nat → Int) (k : Nat) : List (Int × Int) := (List.range k).flatMap fun i => List.replicate (reps (r i)) (nearM (c i), nearM (m i))
theorem lst_succ (c m r : Nat → Int) (k : Nat) : lst c m r (k + 1) = lst c m r k ++ List.replicate (reps (r k)) (nearM (c k), nearM (m k)) := by unfold lst; rw [List.range_succ, List.flatMap_append]; simp
theorem lst_len (c m r : Nat → Int) : ∀ k, (lst c m r k).length ≤ 8 * k
  | 0 => Nat.le_refl _
  | k + 1 => by
    rw [lst_succ, List.length_append, List.length_replicate]
    have := lst_len c m r k
    have := reps_le (r k)
    omega
theorem lst_bd (c m r : Nat → Int) (k : Nat) : ∀ x ∈ lst c m r k, (0 ≤ x.1 ∧ x.1 ≤ 1099511627776) ∧ (0 ≤ x.2 ∧ x.2 ≤ 1099511627776) := by
  intro x hx
  unfold lst at hx
  obtain ⟨i, _, hi⟩ := List.mem_flatMap.1 hx
  obtain ⟨_, rfl⟩ := List.mem_replicate.1 hi
  exact ⟨nearM_bd _, nearM_bd _⟩
theorem su_add (f : Nat → Int) (a : Nat) : ∀ b, su f (a + b) = su f a + su (fun i => f (a + i)) b
  | 0 => by simp [su]
  | b + 1 => by
    show su f (a + b) + f (a + b) = su f a + (su (fun i => f (a + i)) b + f (a + b))
    rw [su_add f a b, Int.add_assoc]
theorem su_const (x : Int) : ∀ k : Nat, su (fun _ => x) k = (k : Int) * x
  | 0 => by simp [su]
  | k + 1 => by
    show su (fun _ => x) k + x = _
    rw [su_const x k, show ((k + 1 : Nat) : Int) * x = (k : Int) * x + x by rw [Int.natCast_add, Int.add_mul]; simp]
theorem getD_left {α : Type} {d : α} {a b : List α} {i : Nat} (h : i < a.length) : (a ++ b).getD i d = a.getD i d := by
  rw [List.getD_eq_getElem?_getD, List.getD_eq_getElem?_getD, List.getElem?_append_left h]
theorem getD_right {α : Type} {d : α} {a b : List α} {i : Nat} : (a ++ b).getD (a.length + i) d = b.getD i d := by
  rw [List.getD_eq_getElem?_getD, List.getD_eq_getElem?_getD, List.getElem?_append_right (by omega)]
  rw [show a.length + i - a.length = i by omega]
theorem su_list {α : Type} (d : α) (g : α → Int) (a b : List α) : su (fun i => g ((a ++ b).getD i d)) (a ++ b).length = su (fun i => g (a.getD i d)) a.length + su (fun i => g (b.getD i d)) b.length := by
  rw [List.length_append, su_add]
  congr 1
  · exact su_congr fun i hi => by rw [getD_left hi]
  · exact su_congr fun i hi => by rw [getD_right]
theorem su_repl {α : Type} (d : α) (g : α → Int) (n : Nat) (x : α) : su (fun i => g ((List.replicate n x).getD i d)) (List.replicate n x).length = (n : Int) * g x := by
  rw [List.length_replicate, ← su_const]
  exact su_congr fun i hi => by rw [List.getD_eq_getElem?_getD, List.getElem?_replicate]; simp [hi]
/-- the sum of all replicas' burdens -/
def prj (c r : Nat → Int) (k : Nat) : Int := su (fun i => (reps (r i) : Int) * nearM (c i)) k
theorem prj_fst (c m r : Nat → Int) : ∀ k, su (fun i => ((lst c m r k).getD i (0, 0)).1) (lst c m r k).length = prj c r k
  | 0 => rfl
  | k + 1 => by
    rw [lst_succ]
    have h := su_list (0, 0) Prod.fst (lst c m r k) (List.replicate (reps (r k)) (nearM (c k), nearM (m k)))
    rw [h, prj_fst c m r k, su_repl]; rfl
theorem prj_snd (c m r : Nat → Int) : ∀ k, su (fun i => ((lst c m r k).getD i (0, 0)).2) (lst c m r k).length = prj m r k
  | 0 => rfl
  | k + 1 => by
    rw [lst_succ]
    have h := su_list (0, 0) Prod.snd (lst c m r k) (List.replicate (reps (r k)) (nearM (c k), nearM (m k)))
    rw [h, prj_snd c m r k, su_repl]; rfl
theorem prj_succ (c r : Nat → Int) (k : Nat) : prj c r (k + 1) = prj c r k + (reps (r k) : Int) * nearM (c k) := rfl
theorem rep_near_bd (r c : Int) : 0 ≤ (reps r : Int) * nearM c ∧ (reps r : Int) * nearM c ≤ 8796093022208 := by
  have h1 := reps_le r
  have h2 := nearM_bd c
  refine ⟨Int.mul_nonneg (by omega) h2.1, ?_⟩
  calc (reps r : Int) * nearM c ≤ 8 * nearM c := Int.mul_le_mul_of_nonneg_right (by omega) h2.1
    _ ≤ 8796093022208 := by omega
theorem prj_bd (c r : Nat → Int) {k : Nat} (hk : k ≤ 16) : 0 ≤ prj c r k ∧ prj c r k ≤ 140737488355328 := by
  have := su_le (f := fun i => (reps (r i) : Int) * nearM (c i)) (M := 8796093022208) (n := k) 16 (fun i _ => rep_near_bd _ _) hk (by omega) (k := k) (Nat.le_refl _)
  exact ⟨this.1, by have := this.2; simp at this; exact this⟩
end Go.Proofs.Ytglihjdbbpohlaa.Pl
