/- The plain law of credit: what a sender may still use, and what is on its way, is reserved at the receiver; no program in sight. -/
import Derived.Test.YtfgkkflbpfocjaaZc6
import Derived.Test.YtfgkkflbpfocjaaZc13
namespace Go.Proofs.Ytfgkkflbpfocjaa
set_option linter.unusedVariables false
set_option linter.unusedSimpArgs false

theorem ov_zero (a : Int) (x : Rg) : ov a a x = 0 := by unfold ov; rw [if_neg (by omega)]
theorem cons_zero (r : Rec) (a : Int) : ∀ k, cons r a 0 k = 0 := by
  intro k
  induction k with
  | zero => show flv r a 0 = 0; unfold flv; split <;> omega
  | succ k ih =>
    show cons r a 0 k + ov a (a + 0) (rgAt r.tk k) = 0
    rw [ih, Int.add_zero a, ov_zero]; rfl
theorem ov_split {a m m' : Int} {x : Rg} (h1 : 0 ≤ m) (h2 : 0 ≤ m') (hx : x.f ≤ x.t) : ov a (a + (m + m')) x = ov a (a + m) x + ov (a + m) (a + m + m') x := by
  unfold ov
  split <;> split <;> split <;> omega
theorem flv_split {r : Rec} {a m m' : Int} (h1 : 0 ≤ m) (h2 : 0 ≤ m') : flv r a (m + m') = flv r a m + flv r (a + m) m' := by
  unfold flv
  split <;> split <;> omega
theorem cons_split {r : Rec} {a m m' : Int} (h1 : 0 ≤ m) (h2 : 0 ≤ m') : ∀ k, (∀ i, i < k → (rgAt r.tk i).f ≤ (rgAt r.tk i).t) → cons r a (m + m') k = cons r a m k + cons r (a + m) m' k := by
  intro k
  induction k with
  | zero => intro _; exact flv_split h1 h2
  | succ k ih =>
    intro hx
    have e := ih fun i hi => hx i (by omega)
    have e2 := ov_split (a := a) h1 h2 (hx k (by omega))
    show cons r a (m + m') k + ov a (a + (m + m')) (rgAt r.tk k) = (cons r a m k + ov a (a + m) (rgAt r.tk k)) + (cons r (a + m) m' k + ov (a + m) (a + m + m') (rgAt r.tk k))
    omega
/-- what is not consumed between two places -/
def free (r : Rec) (a b : Int) : Int := (b - a) - cons r a (b - a) r.tk.length
theorem OkR.le {r : Rec} (h : OkR r) : ∀ i, i < r.tk.length → (rgAt r.tk i).f ≤ (rgAt r.tk i).t := fun i hi => by have := (h.t i hi).1; omega
theorem free_split {r : Rec} (h : OkR r) {a b c : Int} (h1 : a ≤ b) (h2 : b ≤ c) : free r a c = free r a b + free r b c := by
  have := cons_split (r := r) (a := a) (m := b - a) (m' := c - b) (by omega) (by omega) r.tk.length h.le
  rw [show b - a + (c - b) = c - a by omega, show a + (b - a) = b by omega] at this
  unfold free
  omega
theorem free_nn {r : Rec} (h : OkR r) {a b : Int} (h1 : a ≤ b) : 0 ≤ free r a b := by
  by_cases c : a = b
  · subst c
    unfold free
    rw [Int.sub_self, cons_zero]
    omega
  · have := (cons_le h (off := a) (size := b - a) (by omega) (k := r.tk.length) (Nat.le_refl _)).2
    unfold free
    omega
theorem cons_all {r : Rec} (h : OkR r) (h0 : 0 ≤ r.fl) {R : Int} (hR : r.g - r.r = R) : ∀ k, k ≤ r.tk.length → cons r 0 R k = r.fl + szs r.tk k := by
  intro k
  induction k with
  | zero =>
    intro _
    show flv r 0 R = r.fl + 0
    have := h.fl
    unfold flv
    split <;> omega
  | succ k ih =>
    intro hk
    have ih := ih (by omega)
    have hx := h.t k (by omega)
    show cons r 0 R k + ov 0 (0 + R) (rgAt r.tk k) = r.fl + (szs r.tk k + ((rgAt r.tk k).t - (rgAt r.tk k).f))
    have : ov 0 (0 + R) (rgAt r.tk k) = (rgAt r.tk k).t - (rgAt r.tk k).f := by
      unfold ov
      rw [if_pos (by omega)]
      omega
    omega
theorem free_all {r : Rec} (h : OkR r) (h0 : 0 ≤ r.fl) : free r 0 (r.g - r.r) = resv r := by
  unfold free resv
  rw [Int.sub_zero, cons_all h h0 rfl _ (Nat.le_refl _)]
  omega
/-- nothing is consumed behind n -/
theorem free_behind {r : Rec} {n b : Int} (h1 : r.fl ≤ n) (h2 : ∀ i, i < r.tk.length → (rgAt r.tk i).t ≤ n) (hb : n ≤ b) : free r n b = b - n := by
  have key : ∀ k, k ≤ r.tk.length → cons r n (b - n) k = 0 := by
    intro k
    induction k with
    | zero => intro _; show flv r n (b - n) = 0; unfold flv; rw [if_neg (by omega)]
    | succ k ih =>
      intro hk
      have := h2 k (by omega)
      show cons r n (b - n) k + ov n (n + (b - n)) (rgAt r.tk k) = 0
      rw [ih (by omega)]
      unfold ov
      rw [if_neg (by omega)]; rfl
  unfold free
  rw [key _ (Nat.le_refl _)]
  omega
/-- a slot counts: what it stands for has not been received -/
def cntB (r : Rec) (x : Sl) : Bool := decide ((stE r x.off x.size).2 ≠ 0) || decide ((stE r x.off x.size).1 = 2)
def opn' (r : Rec) : List Sl → Int
  | [] => 0
  | x :: l => (if cntB r x = true then x.size else 0) + opn' r l
theorem cnt_free {r : Rec} (h : okR r) {x : Sl} (h0 : 0 < x.size) (h1 : x.off + x.size ≤ r.g - r.r) (hc : cntB r x = true) (ho : 0 ≤ x.off) : free r x.off (x.off + x.size) = x.size := by
  have hz : (chkR r).1 = 0 := h
  unfold cntB stE at hc
  rw [if_neg (fun c => c hz), if_neg (by omega), if_neg (by omega)] at hc
  simp at hc
  unfold stOf at hc
  unfold free
  rw [show x.off + x.size - x.off = x.size by omega]
  split at hc
  · cases hc
  · split at hc
    · rename_i c; omega
    · cases hc
theorem opn_free {r : Rec} (h : okR r) {n : Int} (hn : n ≤ r.g - r.r) : ∀ (l done : List Sl) (e : Int), 0 ≤ e → e ≤ n → (∀ x ∈ l, 0 ≤ x.size) → Good n done e l → opn' r l ≤ free r e n := by
  intro l
  induction l with
  | nil => intro done e h0 he _ _; exact free_nn (okR_of h) he
  | cons x l ih =>
    intro done e h0 he hs hg
    obtain ⟨g1, g2⟩ := hg
    obtain ⟨a, _, b, c, d, _⟩ := slotE_zero.1 g1
    have hx := hs x (by simp)
    have ih := ih _ (x.off + x.size) (by omega) (by omega) (fun y hy => hs y (by simp [hy])) g2
    have o := okR_of h
    have s1 := free_split o (a := e) (b := x.off) (c := n) (by omega) (by omega)
    have s2 := free_split o (a := x.off) (b := x.off + x.size) (c := n) (by omega) (by omega)
    have n1 := free_nn o (a := e) (b := x.off) (by omega)
    have n2 := free_nn o (a := x.off) (b := x.off + x.size) (by omega)
    show (if cntB r x = true then x.size else 0) + opn' r l ≤ _
    by_cases hc : cntB r x = true
    · rw [if_pos hc]
      have := cnt_free h (x := x) (by omega) (by omega) hc (by omega)
      omega
    · rw [if_neg hc]
      omega
/-- the inequality, where both know each other -/
theorem cred_key {s : Led} {r : Rec} (hs : okL s) (hw : Wf s) (hr : okR r) (hwr : WfR r) (h1 : s.g ≤ r.g) (h2 : r.r ≤ s.r) (h3 : r.fl ≤ s.n) (h4 : ∀ i, i < r.tk.length → (rgAt r.tk i).t ≤ s.n) :
    usab s + opn' r s.sl ≤ resv r := by
  obtain ⟨_, b, c, _, g⟩ := (okL_iff s).1 hs
  obtain ⟨w1, w2, w3, w4⟩ := hw
  have o := okR_of hr
  have k1 := opn_free hr (n := s.n) (by omega) s.sl [] 0 (Int.le_refl _) (by omega) (fun x hx => (w4 x hx).2.1.1) g
  have k2 := free_behind (r := r) (n := s.n) (b := s.n + usab s) h3 h4 (by unfold usab; omega)
  have k3 := free_all o hwr.fl.1
  have k4 := free_split o (a := 0) (b := s.n) (c := r.g - r.r) (by omega) (by omega)
  have k5 := free_split o (a := s.n) (b := s.n + usab s) (c := r.g - r.r) (by unfold usab; omega) (by unfold usab; omega)
  have k6 := free_nn o (a := s.n + usab s) (b := r.g - r.r) (by unfold usab; omega)
  omega
end Go.Proofs.Ytfgkkflbpfocjaa

