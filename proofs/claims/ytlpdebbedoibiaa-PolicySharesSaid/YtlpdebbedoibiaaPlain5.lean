/- The plain laws of the least and the greatest level; no program in sight. -/
import Derived.Test.YtlpdebbedoibiaaPlain4
namespace Go.Proofs.Ytlpdebbedoibiaa
set_option linter.unusedVariables false

def lo : List Int → Int
  | [] => 0
  | x :: r => r.foldl (fun a y => if y < a then y else a) x
def top (L : List Int) : Int := L.foldl (fun a y => if a < y then y else a) 0
theorem lo_snoc (L : List Int) (y : Int) : lo (L ++ [y]) = if L = [] then y else if y < lo L then y else lo L := by
  cases L with
  | nil => rfl
  | cons x L => rw [if_neg (by simp)]; show (L ++ [y]).foldl _ x = _; rw [List.foldl_append]; rfl
theorem top_snoc (L : List Int) (y : Int) : top (L ++ [y]) = if top L < y then y else top L := by unfold top; rw [List.foldl_append]; rfl
theorem lo_rng (L : List Int) {m : Int} (h : ∀ x ∈ L, 0 ≤ x ∧ x ≤ m) (hm : 0 ≤ m) : 0 ≤ lo L ∧ lo L ≤ m := by
  cases L with
  | nil => exact ⟨Int.le_refl _, hm⟩
  | cons x L =>
    show 0 ≤ L.foldl _ x ∧ L.foldl _ x ≤ m
    have hx := h x (by simp)
    have hr : ∀ y ∈ L, 0 ≤ y ∧ y ≤ m := fun y hy => h y (by simp [hy])
    clear h
    induction L generalizing x with
    | nil => exact hx
    | cons y L ih =>
      rw [List.foldl_cons]
      refine ih _ ?_ (fun z hz => hr z (by simp [hz]))
      have := hr y (by simp)
      split <;> omega
theorem top_rng (L : List Int) {m : Int} (h : ∀ x ∈ L, 0 ≤ x ∧ x ≤ m) (hm : 0 ≤ m) : 0 ≤ top L ∧ top L ≤ m := by
  have : ∀ (L : List Int) (a : Int), (∀ x ∈ L, 0 ≤ x ∧ x ≤ m) → 0 ≤ a ∧ a ≤ m → 0 ≤ L.foldl (fun a y => if a < y then y else a) a ∧ L.foldl (fun a y => if a < y then y else a) a ≤ m := by
    intro L
    induction L with
    | nil => intro a _ ha; exact ha
    | cons y L ih =>
      intro a hL ha
      rw [List.foldl_cons]
      refine ih _ (fun z hz => hL z (by simp [hz])) ?_
      have := hL y (by simp)
      split <;> omega
  exact this L 0 h ⟨Int.le_refl _, hm⟩
/-- what a node gets -/
def got (n : Int) (S : List Sh) : Int := (S.map fun x => if x.node = n then x.bytes else 0).sum
theorem got_nil (n : Int) : got n [] = 0 := rfl
theorem got_cons (n : Int) (x : Sh) (S : List Sh) : got n (x :: S) = (if x.node = n then x.bytes else 0) + got n S := by simp [got]
theorem got_snoc (n : Int) (S : List Sh) (x : Sh) : got n (S ++ [x]) = got n S + if x.node = n then x.bytes else 0 := by simp [got]
theorem got_none (n : Int) (S : List Sh) (h : ∀ x ∈ S, x.node ≠ n) : got n S = 0 := by
  induction S with
  | nil => rfl
  | cons x S ih => rw [got_cons, if_neg (h x (by simp)), ih (fun y hy => h y (by simp [hy]))]; rfl
theorem got_up (l : List Cl) (ys : List Int) (ha : Asc l) (hl : ys.length = l.length) (hy : ∀ (i : Nat) (c : Cl) (y : Int), l[i]? = some c → ys[i]? = some y → c.res ≤ y) {i : Nat} {c : Cl} {y : Int} (h1 : l[i]? = some c) (h2 : ys[i]? = some y) :
    c.res + got c.node (shUp l ys) = y := by
  induction l generalizing ys i with
  | nil => simp at h1
  | cons d l ih =>
    cases ys with
    | nil => simp at h2
    | cons z ys =>
      have hd := hy 0 d z (by simp) (by simp)
      have ha' := List.pairwise_cons.1 ha
      have hyt := fun (i : Nat) (c : Cl) (y : Int) (h1 : l[i]? = some c) (h2 : ys[i]? = some y) => hy (i + 1) c y (by simpa using h1) (by simpa using h2)
      cases i with
      | zero =>
        simp at h1 h2
        subst h1
        subst h2
        have hn : got d.node (shUp l ys) = 0 := got_none _ _ (fun x hx => by
          obtain ⟨c', hc, e⟩ := shUp_mem l ys x hx
          have := ha'.1 c' hc
          omega)
        unfold shUp
        split
        · rw [got_cons, if_pos rfl, hn]; dsimp only; omega
        · rw [hn]; omega
      | succ i =>
        simp at h1 h2
        have r := ih ys ha'.2 (by simpa using hl) hyt h1 h2
        have hne : d.node ≠ c.node := by have := ha'.1 c (List.mem_of_getElem? h1); omega
        unfold shUp
        split
        · rw [got_cons, if_neg hne]; omega
        · exact r
theorem got_rng (n : Int) (S : List Sh) {m : Int} (h : ∀ x ∈ S, 0 ≤ x.bytes ∧ x.bytes ≤ m) (hm : 0 ≤ m) : 0 ≤ got n S ∧ got n S ≤ S.length * m := by
  induction S with
  | nil => simp [got]
  | cons x S ih =>
    have a := ih (fun y hy => h y (by simp [hy]))
    have b := h x (by simp)
    rw [got_cons, List.length_cons]
    have e : ((S.length + 1 : Nat) : Int) * m = S.length * m + m := by rw [Int.natCast_add, Int.add_mul]; simp
    rw [e]
    split <;> omega
end Go.Proofs.Ytlpdebbedoibiaa
