/- What the laws with rounds know of their cells. -/
import Derived.Test.YthkfdfkjenhjmaaH3
import Derived.Test.YthkfdfkjenhjmaaG3
import Derived.Test.YthkfdfkjenhjmaaV
import Derived.Test.YthkfdfkjenhjmaaT
import Derived.Test.YthkfdfkjenhjmaaR
import Derived.Laws.OwnMore
namespace Go.Proofs.Ythkfdfkjenhjmaa
open Go.RowKit
set_option linter.unusedVariables false
set_option linter.unusedSimpArgs false

/-- a state's rows, apart from some blocks -/
structure DF (w : World) (S : Nat → Prop) (bA oA cA bB oB cB : Nat) (d : Dr) : Prop where
  hA : Hd3 w bA oA d.W
  hD : Hd3 w bB oB d.D
  sA : ¬ S bA
  sB : ¬ S bB
  c1 : 3 ≤ cA ∧ cA ≤ maxLen
  c2 : 3 ≤ cB ∧ cB ≤ maxLen
theorem hd3_at {w : World} {b o c : Nat} {H : List Int} (h : Hd3 w b o H) (hc : 3 ≤ c ∧ c ≤ maxLen) : IntAt w (.slice (some ⟨b, o, none⟩) 3 c) H := by
  refine ⟨_, _, by rw [h.2.1], by rw [h.2.1]; exact hc.1, hc.2, by rw [ints_len, h.2.1], fun _ => ⟨b, o, rfl, h.1, fun j u hj => ?_⟩⟩
  have hj3 : j < H.length := by have := (List.getElem?_eq_some_iff.1 hj).1; rwa [ints_len] at this
  rw [ints_get (at0_get hj3)] at hj
  cases hj
  exact h.2.2 j (by rw [← h.2.1]; exact hj3)
section
variable {w w' : World} {S : Nat → Prop} {bA oA cA bB oB cB : Nat} {d : Dr}
theorem DF.v (h : DF w S bA oA cA bB oB cB d) : DrV w (.agg #[.slice (some ⟨bA, oA, none⟩) 3 cA, .int .i64 d.q, .slice (some ⟨bB, oB, none⟩) 3 cB, .int .i64 d.t]) d := ⟨_, _, rfl, hd3_at h.hA h.c1, hd3_at h.hD h.c2⟩
theorem DF.below (h : DF w S bA oA cA bB oB cB d) (hb : Below w.heap.size w w') : DF w' S bA oA cA bB oB cB d := ⟨h.hA.below hb, h.hD.below hb, h.sA, h.sB, h.c1, h.c2⟩
theorem DF.far (h : DF w S bA oA cA bB oB cB d) {p : Addr} (hp : S p.block) (u : Value) : DF (w.setCell p u) S bA oA cA bB oB cB d := ⟨h.hA.far (fun e => h.sA (by rw [e]; exact hp)) u, h.hD.far (fun e => h.sB (by rw [e]; exact hp)) u, h.sA, h.sB, h.c1, h.c2⟩
theorem DF.of {x : Value} (h : DrV w x d) (hW : d.W.length = 3) (hD : d.D.length = 3) (hS : ∀ k, S k → w.heap.size ≤ k) : ∃ bA oA cA bB oB cB, x = .agg #[.slice (some ⟨bA, oA, none⟩) 3 cA, .int .i64 d.q, .slice (some ⟨bB, oB, none⟩) 3 cB, .int .i64 d.t] ∧ DF w S bA oA cA bB oB cB d := by
  obtain ⟨vW, vD, rfl, h1, h2⟩ := h
  obtain ⟨A, cA, rfl, a1, a2, _⟩ := id h1
  obtain ⟨B, cB, rfl, b1, b2, _⟩ := id h2
  obtain ⟨bA, oA, rfl, hA⟩ := Hd3.of h1 hW
  obtain ⟨bB, oB, rfl, hB⟩ := Hd3.of h2 hD
  refine ⟨bA, oA, cA, bB, oB, cB, by rw [hW, hD], hA, hB, fun e => ?_, fun e => ?_, ⟨by omega, a2⟩, ⟨by omega, b2⟩⟩
  · have := hS _ e; have := hA.1; omega
  · have := hS _ e; have := hB.1; omega
theorem row3_hd {B g c : Nat} {D : List Int} (h : Row3 w B g c D) : Hd3 w g 0 D ∧ 3 ≤ c ∧ c ≤ maxLen := by
  refine ⟨⟨h.lt.2, h.len, fun p hp => by rw [Nat.zero_add]; exact h.cell p hp⟩, ?_⟩
  obtain ⟨A, c', e, a1, a2, _⟩ := SlAt.own h
  cases e
  exact ⟨a1, a2⟩
theorem DF.own {B gw cw gd cd : Nat} (hW : Row3 w B gw cw d.W) (hD : Row3 w B gd cd d.D) (hS : ∀ k, S k → k < B) : DF w S gw 0 cw gd 0 cd d := by
  obtain ⟨a, a'⟩ := row3_hd hW
  obtain ⟨b, b'⟩ := row3_hd hD
  refine ⟨a, b, fun e => ?_, fun e => ?_, a', b'⟩
  · have := hS _ e; have := hW.lt; omega
  · have := hS _ e; have := hD.lt; omega
end
theorem row3_lit (w : World) {base : Nat} (hb : base ≤ w.heap.size) (a b c : Int) : Row3 (w.alloc (.cells #[.int .i64 a, .int .i64 b, .int .i64 c] 3)) base w.heap.size 3 [a, b, c] := by
  have := World.ownsRow_lit (base := base) (e := 3) (size := 1) w #[.int .i64 a, .int .i64 b, .int .i64 c] 3 hb (by unfold maxLen; omega) rfl
  exact this

theorem Next_own_to {d d' : Dr} {H : List Int} {p : Int} (h : nxt d H = (p, d', 0)) (hl : lnE d H = 0) (v u : Value) (w : World) (hD : DrV w v d) (hH : IntAt w u H) : Calls Try.prog 17 #[v, u] w (RetNO p d' w) := by
  have := Next_own d H v u w hD hH hl
  rwa [h] at this
/-- what a law with rounds knows of its cells -/
structure GK (w wx : World) (g12 gG cG gS cS base bA oA cA bB oB cB : Nat) (d : Dr) (G S : List Int) : Prop where
  b12 : Blk wx g12 24 #[.slice (some ⟨bA, oA, none⟩) 3 cA, .int .i64 d.q, .slice (some ⟨bB, oB, none⟩) 3 cB, .int .i64 d.t]
  f : DF wx (fun k => k = gG ∨ k = gS ∨ k = g12) bA oA cA bB oB cB d
  rG : Row3 wx base gG cG G
  rS : Row3 wx base gS cS S
  n : gG ≠ gS
  l12 : g12 < base
  k12 : w.heap.size ≤ g12
  hB : Below w.heap.size w wx
section
variable {w wx wy : World} {g12 gG cG gS cS base bA oA cA bB oB cB : Nat} {d : Dr} {G S : List Int}
theorem GK.below (h : GK w wx g12 gG cG gS cS base bA oA cA bB oB cB d G S) (hb : Below wx.heap.size wx wy) : GK w wy g12 gG cG gS cS base bA oA cA bB oB cB d G S := ⟨h.b12.below hb, h.f.below hb, h.rG.below hb, h.rS.below hb, h.n, h.l12, h.k12, bnext h.hB hb⟩
theorem GK.alloc (h : GK w wx g12 gG cG gS cS base bA oA cA bB oB cB d G S) (o : Obj) : GK w (wx.alloc o) g12 gG cG gS cS base bA oA cA bB oB cB d G S := h.below ((Below.refl _ _).alloc (Nat.le_refl _) o)
theorem GK.drew (h : GK w wx g12 gG cG gS cS base bA oA cA bB oB cB d G S) : GK w wx.drew g12 gG cG gS cS base bA oA cA bB oB cB d G S := h.below (Below.refl _ _).drew
theorem GK.drewN (h : GK w wx g12 gG cG gS cS base bA oA cA bB oB cB d G S) (n : Nat) : GK w (wx.drewN n) g12 gG cG gS cS base bA oA cA bB oB cB d G S := h.below (below_drewN (Below.refl _ _) n)
theorem GK.setG (h : GK w wx g12 gG cG gS cS base bA oA cA bB oB cB d G S) (p : Nat) (hp : p < 3) (x : Int) : GK w (wx.setCell ⟨gG, p, none⟩ (.int .i64 x)) g12 gG cG gS cS base bA oA cA bB oB cB d (G.set p x) S := by
  have l := h.rG.lt
  have l2 := h.l12
  have k := h.k12
  exact ⟨h.b12.far (by show g12 ≠ gG; omega) _, h.f.far (.inl rfl) _, h.rG.set p hp x, h.rS.far (fun e => h.n e.symm) _, h.n, h.l12, h.k12, bset h.hB (by show w.heap.size ≤ gG; omega) _⟩
theorem GK.setS (h : GK w wx g12 gG cG gS cS base bA oA cA bB oB cB d G S) (p : Nat) (hp : p < 3) (x : Int) : GK w (wx.setCell ⟨gS, p, none⟩ (.int .i64 x)) g12 gG cG gS cS base bA oA cA bB oB cB d G (S.set p x) := by
  have l := h.rS.lt
  have l2 := h.l12
  have k := h.k12
  exact ⟨h.b12.far (by show g12 ≠ gS; omega) _, h.f.far (.inr (.inl rfl)) _, h.rG.far h.n _, h.rS.set p hp x, h.n, h.l12, h.k12, bset h.hB (by show w.heap.size ≤ gS; omega) _⟩
theorem GK.state (h : GK w wx g12 gG cG gS cS base bA oA cA bB oB cB d G S) {d' : Dr} {bA' oA' cA' bB' oB' cB' : Nat} (hf : DF wx (fun k => k = gG ∨ k = gS ∨ k = g12) bA' oA' cA' bB' oB' cB' d') :
    GK w ((((wx.setCell ⟨g12, 0, none⟩ (.slice (some ⟨bA', oA', none⟩) 3 cA')).setCell ⟨g12, 1, none⟩ (.int .i64 d'.q)).setCell ⟨g12, 2, none⟩ (.slice (some ⟨bB', oB', none⟩) 3 cB')).setCell ⟨g12, 3, none⟩ (.int .i64 d'.t)) g12 gG cG gS cS base bA' oA' cA' bB' oB' cB' d' G S := by
  have l := h.rS.lt
  have l1 := h.rG.lt
  have l2 := h.l12
  have k := h.k12
  refine ⟨(((h.b12.set 0 _).set 1 _).set 2 _).set 3 _, (((hf.far (.inr (.inr rfl)) _).far (.inr (.inr rfl)) _).far (.inr (.inr rfl)) _).far (.inr (.inr rfl)) _, ?_, ?_, h.n, h.l12, h.k12, bset (bset (bset (bset h.hB k _) k _) k _) k _⟩
  · repeat (first | with_reducible exact h.rG | with_reducible refine Row3.far ?_ (by show gG ≠ g12; omega) _)
  · repeat (first | with_reducible exact h.rS | with_reducible refine Row3.far ?_ (by show gS ≠ g12; omega) _)
theorem DF.only {S : Nat → Prop} {bA oA cA bB oB cB : Nat} {d : Dr} (h : DF wx S bA oA cA bB oB cB d) {T : Nat → Prop} (ho : Only T wx wy) (hT : ∀ k, T k → S k) : DF wy S bA oA cA bB oB cB d :=
  ⟨h.hA.only ho (fun e => h.sA (hT _ e)), h.hD.only ho (fun e => h.sB (hT _ e)), h.sA, h.sB, h.c1, h.c2⟩
theorem GK.onlyG (h : GK w wx g12 gG cG gS cS base bA oA cA bB oB cB d G S) {G' : List Int} (ho : Only (fun k => k = gG) wx wy) (hr : Row3 wy base gG cG G') : GK w wy g12 gG cG gS cS base bA oA cA bB oB cB d G' S := by
  have l := h.rG.lt
  have l2 := h.l12
  have k := h.k12
  have rs : Row3 wy base gS cS S := own_only h.rS ho (fun g e => by simp [Value.ownBlock] at e; subst e; exact fun e => h.n e.symm)
  exact ⟨h.b12.only ho (by show ¬ g12 = gG; omega), h.f.only ho (fun k e => .inl e), hr, rs, h.n, h.l12, h.k12, h.hB.trans (ho.to_below (fun k e => by have : k = gG := e; omega) h.hB.size)⟩
end
end Go.Proofs.Ythkfdfkjenhjmaa
