/- Contracts: what the program and the reference answer alike. -/
import Derived.Test.YtlpdebbedoibiaaQ4
import Derived.Test.YtlpdebbedoibiaaO
import Derived.Test.YtlpdebbedoibiaaN
namespace Go.Proofs.Ytlpdebbedoibiaa
open Go.RowKit
set_option linter.unusedVariables false
set_option linter.unusedSimpArgs false

theorem isUp_exists (L : List Int) (hL : ∀ x ∈ L, 0 ≤ x) {A : Int} (hA : 0 ≤ A) (n : Nat) : ∃ v, IsUp L n A v := by
  induction n with
  | zero => exact ⟨0, by omega, by omega, by rw [needs_zero L hL]; exact hA, .inl rfl⟩
  | succ n ih =>
    obtain ⟨v, h0, h1, h2, h3⟩ := ih
    by_cases hv : v = n
    · by_cases hn : needs L (v + 1) ≤ A
      · exact ⟨v + 1, by omega, by omega, hn, .inl (by omega)⟩
      · exact ⟨v, h0, by omega, h2, .inr (by omega)⟩
    · exact ⟨v, h0, by omega, h2, .inr (by rcases h3 with h3 | h3; exact absurd h3 hv; exact h3)⟩
theorem isDown_exists (L : List Int) {M : Int} (hM : 0 ≤ M) (hL : ∀ x ∈ L, x ≤ M) {A : Int} (hA : 0 ≤ A) (n : Nat) (hn : (n : Int) ≤ M) : ∃ v, M - n ≤ v ∧ v ≤ M ∧ gives L v ≤ A ∧ (v = M - n ∨ A < gives L (v - 1)) := by
  induction n with
  | zero => exact ⟨M, by omega, by omega, by rw [gives_top L M hL]; exact hA, .inl (by omega)⟩
  | succ n ih =>
    obtain ⟨v, h0, h1, h2, h3⟩ := ih (by omega)
    by_cases hv : v = M - n
    · by_cases hq : gives L (v - 1) ≤ A
      · exact ⟨v - 1, by omega, by omega, hq, .inl (by omega)⟩
      · exact ⟨v, by omega, h1, h2, .inr (by omega)⟩
    · exact ⟨v, by omega, h1, h2, .inr (by rcases h3 with h3 | h3; exact absurd h3 hv; exact h3)⟩

def UpS (l : List Cl) (W A : Int) (S : List Sh) : Prop := ∃ v0, IsUp (lev l) W A v0 ∧ S = shUp l (bump W v0 (lev l) (A - needs (lev l) v0))
theorem UpS.uniq {l : List Cl} {W A : Int} {S T : List Sh} (h : UpS l W A S) (h' : UpS l W A T) : S = T := by
  obtain ⟨v0, a, rfl⟩ := h
  obtain ⟨v1, b, rfl⟩ := h'
  rw [isUp_uniq a b]
def DnS (l : List Cl) (A : Int) (S : List Sh) : Prop := ∃ v0, IsDown (lev l) 1125899906842624 A v0 ∧ S = shDown l (low v0 (lev l) (A - gives (lev l) v0))
theorem DnS.uniq {l : List Cl} {A : Int} {S T : List Sh} (h : DnS l A S) (h' : DnS l A T) : S = T := by
  obtain ⟨v0, a, rfl⟩ := h
  obtain ⟨v1, b, rfl⟩ := h'
  rw [isDown_uniq a b]
theorem upS_nil {l : List Cl} (hL : LevOk (lev l)) {W : Int} (hW : 0 ≤ W) : UpS l W 0 [] := by
  obtain ⟨v, hv⟩ := isUp_exists (lev l) (fun x hx => (hL x hx).1) (Int.le_refl 0) W.toNat
  rw [Int.toNat_of_nonneg hW] at hv
  refine ⟨v, hv, (sh_empty ?_ ?_).symm⟩
  · exact shUp_pos _ _
  · rw [shUp_sum l _ (by rw [bump_len, lev_len]) (fun i c y hc hy => bump_up (lev_get hc) hy), up_sum hv]
    unfold mn; split <;> omega
theorem dnS_nil {l : List Cl} (hL : LevOk (lev l)) : DnS l 0 [] := by
  obtain ⟨v, h0, h1, h2, h3⟩ := isDown_exists (lev l) (M := 1125899906842624) (by decide) (fun x hx => (hL x hx).2) (Int.le_refl 0) 1125899906842624 (by decide)
  have hv : IsDown (lev l) 1125899906842624 0 v := ⟨by omega, h1, h2, by rcases h3 with h3 | h3; exact .inl (by omega); exact .inr h3⟩
  refine ⟨v, hv, (sh_empty ?_ ?_).symm⟩
  · exact shDown_pos _ _
  · rw [shDown_sum l _ (by rw [low_len, lev_len]) (fun i c y hc hy => (low_dn hv.1 (hL _ (List.mem_of_getElem? (lev_get hc))).1 (lev_get hc) hy).1), down_sum (fun x hx => (hL x hx).1) hv]
    unfold mn; split <;> omega

/-- shares and an error: which ones, the first argument says -/
def RetX (P : List Sh → Int → Prop) (w : World) (e : Ending) (w' : World) : Prop := ∃ S er A c, P S er ∧ e = .returned (.tuple #[.slice A S.length c, .int .i64 er]) ∧ ShAt w' (.slice A S.length c) S ∧ Below w.heap.size w w'
def FlS (l : List Cl) (W A : Int) (S : List Sh) (er : Int) : Prop := (askE l [W, A] ≠ 0 ∧ er = askE l [W, A] ∧ S = []) ∨ (askE l [W, A] = 0 ∧ er = 0 ∧ UpS l W A S)
def LwS (l : List Cl) (A : Int) (S : List Sh) (er : Int) : Prop := (askE l [A] ≠ 0 ∧ er = askE l [A] ∧ S = []) ∨ (askE l [A] = 0 ∧ er = 0 ∧ DnS l A S)
def GrS (l : List Cl) (F L W : Int) (S : List Sh) (er : Int) : Prop := (askE l [F, L, W] ≠ 0 ∧ er = askE l [F, L, W] ∧ S = []) ∨ (askE l [F, L, W] = 0 ∧ er = 0 ∧ UpS (act l) W (over F L) S)
def RcS (l : List Cl) (F L : Int) (S : List Sh) (er : Int) : Prop := (askE l [F, L] ≠ 0 ∧ er = askE l [F, L] ∧ S = []) ∨ (askE l [F, L] = 0 ∧ er = 0 ∧ DnS (act l) (over L F) S)
theorem FlS.uniq {l : List Cl} {W A : Int} {S T : List Sh} {e f : Int} (h : FlS l W A S e) (h' : FlS l W A T f) : S = T ∧ e = f := by
  rcases h with ⟨a, rfl, rfl⟩ | ⟨a, rfl, b⟩ <;> rcases h' with ⟨a', rfl, rfl⟩ | ⟨a', rfl, b'⟩
  · exact ⟨rfl, rfl⟩
  · exact absurd a' a
  · exact absurd a a'
  · exact ⟨b.uniq b', rfl⟩
theorem LwS.uniq {l : List Cl} {A : Int} {S T : List Sh} {e f : Int} (h : LwS l A S e) (h' : LwS l A T f) : S = T ∧ e = f := by
  rcases h with ⟨a, rfl, rfl⟩ | ⟨a, rfl, b⟩ <;> rcases h' with ⟨a', rfl, rfl⟩ | ⟨a', rfl, b'⟩
  · exact ⟨rfl, rfl⟩
  · exact absurd a' a
  · exact absurd a a'
  · exact ⟨b.uniq b', rfl⟩
theorem GrS.uniq {l : List Cl} {F L W : Int} {S T : List Sh} {e f : Int} (h : GrS l F L W S e) (h' : GrS l F L W T f) : S = T ∧ e = f := by
  rcases h with ⟨a, rfl, rfl⟩ | ⟨a, rfl, b⟩ <;> rcases h' with ⟨a', rfl, rfl⟩ | ⟨a', rfl, b'⟩
  · exact ⟨rfl, rfl⟩
  · exact absurd a' a
  · exact absurd a a'
  · exact ⟨b.uniq b', rfl⟩
theorem RcS.uniq {l : List Cl} {F L : Int} {S T : List Sh} {e f : Int} (h : RcS l F L S e) (h' : RcS l F L T f) : S = T ∧ e = f := by
  rcases h with ⟨a, rfl, rfl⟩ | ⟨a, rfl, b⟩ <;> rcases h' with ⟨a', rfl, rfl⟩ | ⟨a', rfl, b'⟩
  · exact ⟨rfl, rfl⟩
  · exact absurd a' a
  · exact absurd a a'
  · exact ⟨b.uniq b', rfl⟩
theorem retX_of {P : List Sh → Int → Prop} {S : List Sh} {er : Int} (hP : P S er) {w w' : World} {e : Ending} (h : RetShE S er w e w') : RetX P w e w' := by
  obtain ⟨A, c, he, ho, hb⟩ := h
  exact ⟨S, er, A, c, hP, he, SlAt.own ho, hb⟩

theorem Fill_all (l : List Cl) (hw : ClWf l) (W A : Int) (hW : 0 ≤ W) (hA : 0 ≤ A) (v : Value) (w : World) (hS : ClAt w v l) :
    Calls Try.prog 10 #[v, .int .u64 W, .int .u64 A] w (RetX (FlS l W A) w) := by
  by_cases hk : askE l [W, A] = 0
  · exact (Fill_ok l hw W A hW hA hk v w hS).mono fun e w' ⟨v0, h1, h2⟩ => retX_of (.inr ⟨hk, rfl, v0, h1, rfl⟩) h2
  · exact (Fill_no l W A hk v w hS).mono fun e w' h => retX_of (.inl ⟨hk, rfl, rfl⟩) h
theorem Lower_all (l : List Cl) (hw : ClWf l) (A : Int) (hA : 0 ≤ A) (v : Value) (w : World) (hS : ClAt w v l) :
    Calls Try.prog 11 #[v, .int .u64 A] w (RetX (LwS l A) w) := by
  by_cases hk : askE l [A] = 0
  · exact (Lower_ok l hw A hA hk v w hS).mono fun e w' ⟨v0, h1, h2⟩ => retX_of (.inr ⟨hk, rfl, v0, h1, rfl⟩) h2
  · exact (Lower_no l A hk v w hS).mono fun e w' h => retX_of (.inl ⟨hk, rfl, rfl⟩) h
theorem Grants_all (l : List Cl) (hw : ClWf l) (F L W : Int) (hF : 0 ≤ F) (hL : 0 ≤ L) (hW : 0 ≤ W) (v : Value) (w : World) (hS : ClAt w v l) :
    Calls Try.prog 17 #[v, .int .u64 F, .int .u64 L, .int .u64 W] w (RetX (GrS l F L W) w) := by
  by_cases hk : askE l [F, L, W] = 0
  · exact (Grants_ok l hw F L W hF hL hW hk v w hS).mono fun e w' ⟨v0, h1, h2⟩ => retX_of (.inr ⟨hk, rfl, v0, h1, rfl⟩) h2
  · exact (Grants_no l F L W hk v w hS).mono fun e w' h => retX_of (.inl ⟨hk, rfl, rfl⟩) h
theorem Reclaims_all (l : List Cl) (hw : ClWf l) (F L : Int) (hF : 0 ≤ F) (hL : 0 ≤ L) (v : Value) (w : World) (hS : ClAt w v l) :
    Calls Try.prog 19 #[v, .int .u64 F, .int .u64 L] w (RetX (RcS l F L) w) := by
  by_cases hk : askE l [F, L] = 0
  · exact (Reclaims_ok l hw F L hF hL hk v w hS).mono fun e w' ⟨v0, h1, h2⟩ => retX_of (.inr ⟨hk, rfl, v0, h1, rfl⟩) h2
  · exact (Reclaims_no l F L hk v w hS).mono fun e w' h => retX_of (.inl ⟨hk, rfl, rfl⟩) h
/-- the two numbers and the error of Levels -/
def LvS (l : List Cl) (W A : Int) (a b er : Int) : Prop := (askE l [W, A] ≠ 0 ∧ er = askE l [W, A] ∧ a = 0 ∧ b = 0) ∨ (askE l [W, A] = 0 ∧ er = 0 ∧ ∃ v0, IsUp (lev l) W A v0 ∧ a = lo (bump W v0 (lev l) (A - needs (lev l) v0)) ∧ b = top (bump W v0 (lev l) (A - needs (lev l) v0)))
theorem LvS.uniq {l : List Cl} {W A a b e a' b' e' : Int} (h : LvS l W A a b e) (h' : LvS l W A a' b' e') : a = a' ∧ b = b' ∧ e = e' := by
  rcases h with ⟨p, rfl, rfl, rfl⟩ | ⟨p, rfl, v0, u, rfl, rfl⟩ <;> rcases h' with ⟨p', rfl, rfl, rfl⟩ | ⟨p', rfl, v1, u', rfl, rfl⟩
  · exact ⟨rfl, rfl, rfl⟩
  · exact absurd p' p
  · exact absurd p p'
  · rw [isUp_uniq u u']; exact ⟨rfl, rfl, rfl⟩
def RetLv (l : List Cl) (W A : Int) (w : World) (e : Ending) (w' : World) : Prop := ∃ a b er, LvS l W A a b er ∧ Ret3 a b er w e w'
theorem Levels_all (l : List Cl) (hw : ClWf l) (W A : Int) (hW : 0 ≤ W) (hA : 0 ≤ A) (v : Value) (w : World) (hS : ClAt w v l) :
    Calls Try.prog 26 #[v, .int .u64 W, .int .u64 A] w (RetLv l W A w) := by
  by_cases hk : askE l [W, A] = 0
  · exact (Levels_ok l hw W A hW hA hk v w hS).mono fun e w' ⟨v0, h1, h2⟩ => ⟨_, _, _, .inr ⟨hk, rfl, v0, h1, rfl, rfl⟩, h2⟩
  · exact (Levels_no l W A hk v w hS).mono fun e w' h => ⟨_, _, _, .inl ⟨hk, rfl, rfl, rfl⟩, h⟩
end Go.Proofs.Ytlpdebbedoibiaa
