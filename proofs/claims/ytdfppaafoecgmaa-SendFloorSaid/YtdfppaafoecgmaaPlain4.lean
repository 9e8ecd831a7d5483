/- What a step makes of a ledger. -/
import Derived.Test.YtdfppaafoecgmaaN7
import Derived.Test.YtdfppaafoecgmaaPlain3
namespace Go.Proofs.Ytdfppaafoecgmaa
set_option linter.unusedVariables false
set_option linter.unusedSimpArgs false

/-- a ledger behind i steps -/
def InvT (i : Nat) (s : Led) : Prop := okL s ∧ Wf s ∧ s.g ≤ 1000 + 50 * i ∧ s.sl.length ≤ 12 + i ∧ ∀ x ∈ s.sl, x.node = 2 → x.seq < i
def Step (i : Nat) (s s' : Led) : Prop := InvT (i + 1) s' ∧ flr s ≤ flr s' ∧ s.n ≤ s'.n
variable {i : Nat} {s : Led}
theorem inv_next (h : InvT i s) : InvT (i + 1) s := by
  obtain ⟨a, b, c, d, e⟩ := h
  exact ⟨a, b, by omega, by omega, fun x hx hn => by have := e x hx hn; omega⟩
theorem inv_led (h : LedI 12 s) : InvT 0 s := by
  obtain ⟨a, b⟩ := ledI_ok h (by decide)
  obtain ⟨g1, _, _, _, hl, hx, _⟩ := h
  exact ⟨a, b, by omega, by omega, fun x hm hn => by have := (hx x hm).2.2.1; omega⟩
theorem inv_n (h : InvT i s) : 0 ≤ s.g ∧ s.r ≤ s.g ∧ s.n ≤ s.g - s.r ∧ 0 ≤ s.n ∧ 0 ≤ s.r ∧ Good s.n [] 0 s.sl ∧ s.sl.length ≤ 100 ∧ s.g ≤ 1125899906842624 := by
  obtain ⟨a, b, c, d, e⟩ := h
  obtain ⟨p, q, r, t, u⟩ := (okL_iff s).1 a
  exact ⟨b.1.1, q, r, b.2.1.1, b.2.2.1.1, u, t, p⟩
theorem flr_le (h : InvT i s) : flr s ≤ s.n ∧ 0 ≤ flr s := by
  have g := (inv_n h).2.2.2.2.2.1
  have n0 := (inv_n h).2.2.2.1
  have w := h.2.1.2.2.2
  unfold flr
  split
  · exact ⟨Int.le_refl _, n0⟩
  · rename_i x r e
    rw [e] at g
    have q := good_off g (fun y hy => (w y (by rw [e]; exact hy)).2.1.1) (x := x) (by simp)
    have := (w x (by rw [e]; simp)).2.1.1
    omega
theorem offer_step (h : InvT i s) (hi : i ≤ 40) {z : Int} (h1 : 1 ≤ z) (h2 : z ≤ 50) : (∃ a k, offer s z 2 i 0 = (a, k, 0) ∧ Step i s a) ∨ offer s z 2 i 0 = (zLed, 0, 14) := by
  obtain ⟨g0, hr, hn, n0, r0, hG, hl, hg⟩ := inv_n h
  obtain ⟨ha, hb, hc, hd, he⟩ := id h
  have hid : IdOk 2 i 0 := ⟨by decide, by decide, by decide, by decide, by omega⟩
  have hno : anyHas 2 i 0 s.sl = false := by
    simp only [anyHas, List.any_eq_false]
    intro x hx
    simp only [Sl.has, Bool.and_eq_true, beq_iff_eq]
    rintro ⟨⟨p, q⟩, _⟩
    have := he x hx p
    omega
  by_cases hu : usab s < z
  · right
    unfold offer
    rw [if_neg (fun f => f ha), if_neg (by rintro (f | f); omega; exact f hid), if_neg (by rw [hno]; decide), if_neg (by omega), if_pos hu]
    rfl
  · left
    have hu' : z ≤ s.g - s.n - s.r := by unfold usab at hu; omega
    refine ⟨_, _, by unfold offer; rw [if_neg (fun f => f ha), if_neg (by rintro (f | f); omega; exact f hid), if_neg (by rw [hno]; decide), if_neg (by omega), if_neg hu], ⟨⟨?_, ?_, ?_, ?_, ?_⟩, ?_, ?_⟩⟩
    · refine (okL_iff _).2 ⟨hg, hr, by show s.n + z ≤ s.g - s.r; omega, by simp; omega, ?_⟩
      refine good_end hG n0 (by show s.n ≤ s.n + z; omega) (slotE_zero.2 ⟨by show z ≠ 0; omega, hid, Int.le_refl _, by show s.n ≤ s.n + z; omega, by show z ≤ s.n + z - s.n; omega, by simpa using hno⟩)
    · refine ⟨hb.1, ⟨by show 0 ≤ s.n + z; omega, by show s.n + z ≤ _; omega⟩, hb.2.2.1, fun x hx => ?_⟩
      rcases List.mem_append.1 hx with hx | hx
      · exact hb.2.2.2 x hx
      · have := List.mem_singleton.1 hx
        subst this
        exact ⟨⟨n0, by show s.n ≤ _; omega⟩, ⟨by show 0 ≤ z; omega, by show z ≤ _; omega⟩, ⟨by show (0 : Int) ≤ (i : Int); omega, by show (i : Int) ≤ _; omega⟩⟩
    · show s.g ≤ _; omega
    · simp; omega
    · intro x hx hn2
      rcases List.mem_append.1 hx with hx | hx
      · have := he x hx hn2; omega
      · have := List.mem_singleton.1 hx
        subst this
        show (i : Int) < _; omega
    · unfold flr
      cases s.sl with
      | nil => exact Int.le_refl _
      | cons x r => exact Int.le_refl _
    · show s.n ≤ s.n + z; omega
theorem grant_step (h : InvT i s) (hi : i ≤ 40) {z : Int} (h1 : 1 ≤ z) (h2 : z ≤ 50) : ∃ a k, grant s (s.g + z) = (a, k, 0) ∧ Step i s a := by
  obtain ⟨g0, hr, hn, n0, r0, hG, hl, hg⟩ := inv_n h
  obtain ⟨ha, hb, hc, hd, he⟩ := id h
  refine ⟨{ s with g := s.g + z }, s.g + z - s.g, by unfold grant; rw [if_neg (fun f => f ha), if_neg (by omega), if_neg (by omega)], ⟨⟨?_, ?_, ?_, ?_, ?_⟩, Int.le_refl _, Int.le_refl _⟩⟩
  · exact (okL_iff _).2 ⟨by show s.g + z ≤ _; omega, by show s.r ≤ s.g + z; omega, by show s.n ≤ s.g + z - s.r; omega, hl, hG⟩
  · exact ⟨⟨by show 0 ≤ s.g + z; omega, by show s.g + z ≤ _; omega⟩, hb.2⟩
  · show s.g + z ≤ _; omega
  · show s.sl.length ≤ _; omega
  · exact fun x hx hn => by have := he x hx hn; omega
theorem give_step (h : InvT i s) (hi : i ≤ 40) {z : Int} (h1 : 1 ≤ z) (h2 : z ≤ 50) : ∃ a k, give s (s.r + z) = (a, k, 0) ∧ Step i s a := by
  obtain ⟨g0, hr, hn, n0, r0, hG, hl, hg⟩ := inv_n h
  obtain ⟨ha, hb, hc, hd, he⟩ := id h
  have key : ∀ y, 0 ≤ y → y ≤ s.g - s.n - s.r → Step i s { s with r := s.r + y } := by
    intro y y0 y1
    refine ⟨⟨?_, ?_, ?_, ?_, ?_⟩, Int.le_refl _, Int.le_refl _⟩
    · exact (okL_iff _).2 ⟨hg, by show s.r + y ≤ s.g; omega, by show s.n ≤ s.g - (s.r + y); omega, hl, hG⟩
    · exact ⟨hb.1, hb.2.1, ⟨by show 0 ≤ s.r + y; omega, by show s.r + y ≤ _; omega⟩, hb.2.2.2⟩
    · show s.g ≤ _; omega
    · show s.sl.length ≤ _; omega
    · exact fun x hx hn => by have := he x hx hn; omega
  by_cases hu : usab s < s.r + z - s.r
  · refine ⟨{ s with r := s.r + usab s }, usab s, by unfold give; rw [if_neg (fun f => f ha), if_neg (by omega), if_neg (by omega), if_pos hu], ?_⟩
    refine key (usab s) ?_ ?_ <;> (unfold usab; omega)
  · refine ⟨{ s with r := s.r + z }, s.r + z - s.r, by unfold give; rw [if_neg (fun f => f ha), if_neg (by omega), if_neg (by omega), if_neg hu], ?_⟩
    unfold usab at hu
    exact key z (by omega) (by omega)
theorem good_before {nxt : Int} {x : Sl} : ∀ {l done : List Sl} {e : Int} {j : Nat}, Good nxt done e l → l[j]? = some x → anyHas x.node x.seq x.io (done ++ l.take j) = false ∧ IdOk x.node x.seq x.io
  | [], _, _, _, _, h => by simp at h
  | y :: r, done, e, 0, h, hx => by
    simp at hx
    subst hx
    obtain ⟨h1, _⟩ := h
    have q := slotE_zero.1 h1
    exact ⟨by simpa using q.2.2.2.2.2, q.2.1⟩
  | y :: r, done, e, j + 1, h, hx => by
    obtain ⟨_, h2⟩ := h
    have := good_before h2 (show r[j]? = some x by simpa using hx)
    rw [List.append_assoc] at this
    exact this
theorem good_fnd {nxt e : Int} {x : Sl} {l : List Sl} {j : Nat} (h : Good nxt [] e l) (hx : l[j]? = some x) : fnd x.node x.seq x.io l = j := by
  have hj := (List.getElem?_eq_some_iff.1 hx).1
  refine fnd_is _ _ _ _ _ (by omega) (fun q y hq hy => ?_) (fun _ => ⟨x, hx, by simp [Sl.has]⟩)
  have hb := (good_before h hx).1
  rw [List.nil_append] at hb
  simp only [anyHas, List.any_eq_false] at hb
  have := hb y (List.mem_iff_getElem?.2 ⟨q, by rw [List.getElem?_take, if_pos hq]; exact hy⟩)
  simpa using this
theorem settle_step (h : InvT i s) {j : Nat} {x : Sl} (hx : s.sl[j]? = some x) : ∃ a, settle s x.off x.node x.seq x.io = (a, 0) ∧ Step i s a := by
  obtain ⟨g0, hr, hn, n0, r0, hG, hl, hg⟩ := inv_n h
  obtain ⟨ha, hb, hc, hd, he⟩ := id h
  have hf := good_fnd hG hx
  refine ⟨_, settle_ok ha (good_before hG hx).2 hf hx rfl, ⟨⟨?_, ?_, ?_, ?_, ?_⟩, ?_, Int.le_refl _⟩⟩
  · exact (okL_iff _).2 ⟨hg, hr, hn, Nat.le_trans (List.length_eraseIdx_le _ _) hl, good_erase hG (fun y hy => (hb.2.2.2 y hy).2.1.1) j⟩
  · exact ⟨hb.1, hb.2.1, hb.2.2.1, fun y hy => hb.2.2.2 y (List.mem_of_mem_eraseIdx hy)⟩
  · show s.g ≤ _; omega
  · have := List.length_eraseIdx_le s.sl j
    show (s.sl.eraseIdx j).length ≤ _; omega
  · exact fun y hy hn => by have := he y (List.mem_of_mem_eraseIdx hy) hn; omega
  · show flr s ≤ flr { s with sl := s.sl.eraseIdx j }
    have hfl := flr_le h
    have w := hb.2.2.2
    unfold flr at hfl ⊢
    cases hs : s.sl with
    | nil => rw [hs] at hx; simp at hx
    | cons y r =>
      rw [hs] at hG hfl
      cases j with
      | zero =>
        show y.off ≤ _
        cases r with
        | nil => exact hfl.1
        | cons z r =>
          obtain ⟨h1, h2, _⟩ := hG
          have q := (slotE_zero.1 h2).2.2.1
          have := (w y (by rw [hs]; simp)).2.1.1
          show y.off ≤ z.off
          omega
      | succ j => exact Int.le_refl _
/-- the slots of a valid ledger, seen from the slot number k -/
theorem good_drop {nxt : Int} : ∀ {l done : List Sl} {e : Int} (k : Nat), Good nxt done e l → ∀ {x : Sl}, l[k]? = some x → ∃ e', slotE nxt (done ++ l.take k) e' x = 0 ∧ (k = 0 → e' = e) ∧ ∀ p, 0 < k → l[k - 1]? = some p → p.off + p.size = e'
  | [], _, _, _, _, _, h => by simp at h
  | y :: r, done, e, 0, h, x, hx => by
    simp at hx
    subst hx
    exact ⟨e, by simpa using h.1, fun _ => rfl, fun p hp => by omega⟩
  | y :: r, done, e, k + 1, h, x, hx => by
    obtain ⟨e', h1, h2, h3⟩ := good_drop k h.2 (show r[k]? = some x by simpa using hx)
    refine ⟨e', by rw [List.append_assoc] at h1; exact h1, fun h => by omega, fun p _ hp => ?_⟩
    cases k with
    | zero =>
      simp at hp
      subst hp
      exact (h2 rfl).symm
    | succ k => exact h3 p (by omega) (by simpa using hp)
end Go.Proofs.Ytdfppaafoecgmaa
