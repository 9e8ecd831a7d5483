/- The plain law of credit, step by step: what stays true of two nodes and the frames under way; no program in sight. -/
import Derived.Test.YtfgkkflbpfocjaaZc14
namespace Go.Proofs.Ytfgkkflbpfocjaa
set_option linter.unusedVariables false
set_option linter.unusedSimpArgs false

theorem chkP_mk {p : Pr} (h1 : ¬ p.out) (h2 : okL p.s) (h3 : okR p.r) (h4 : p.theirs = 0 → p.empty) : chkP p = 0 := by
  have h2 : (chk p.s).1 = 0 := h2
  have h3 : (chkR p.r).1 = 0 := h3
  unfold chkP
  rw [if_neg h1, if_neg (fun c => c h2), if_neg (fun c => c h3), if_neg (fun c => c.2 (h4 c.1))]
theorem okL_z : okL zSend := by decide
theorem okR_z : okR zRec := by decide
theorem wf_z : Wf zSend := ⟨by decide, by decide, by decide, fun x hx => by cases hx⟩
theorem wfR_z : WfR zRec := ⟨by decide, by decide, by decide, (fun x hx => by cases hx), (fun x hx => by cases hx)⟩
theorem resv_z : resv zRec = 0 := by decide
/-- the sender as it knows the receiver; the receiver as it knows the sender -/
def sP (st : Int) (su : Bool) (ss : Led) : Pr := ⟨2, st, su, 0, ss, zRec⟩
def rP (rt : Int) (ru : Bool) (ro : Int) (rr : Rec) : Pr := ⟨1, rt, ru, ro, zSend, rr⟩
/-- what a Grant on its way can give -/
def GB (st : Int) (ss : Led) (ro : Int) (rr : Rec) (br : Int) (f : Fr) : Prop := (f.mine = st → st = br → f.a ≤ rr.g) ∧ (f.mine = st → st < br → f.a ≤ ro + ss.n + ss.r) ∧ (st < f.mine → f.a = 0)
/-- what a frame says of what the sender has used -/
def DB (ss : Led) (f : Fr) : Prop := (f.kind = 3 → f.b ≤ ss.n) ∧ (f.kind = 4 → f.a ≤ ss.n ∧ f.b ≤ ss.r)
def FrI (st : Int) (ss : Led) (rt ro : Int) (rr : Rec) (bs br : Int) (f : Fr) : Prop := frE f = 0 ∧ 0 ≤ f.a ∧ 0 ≤ f.b ∧
  ((f.to = 1 ∧ f.frm = 2 ∧ f.mine ≤ br ∧ f.yours ≤ rt ∧ (f.kind = 2 → f.yours = bs → GB st ss ro rr br f)) ∨
   (f.to = 2 ∧ f.frm = 1 ∧ f.mine ≤ bs ∧ f.yours ≤ st ∧ (f.mine = bs → f.yours = br → DB ss f)))
def I1 (ss : Led) (rr : Rec) : Prop := ss.g ≤ rr.g ∧ rr.r ≤ ss.r ∧ rr.fl ≤ ss.n ∧ ∀ j, j < rr.tk.length → (rgAt rr.tk j).t ≤ ss.n
structure Inv (i : Int) (st : Int) (su : Bool) (ss : Led) (rt : Int) (ru : Bool) (ro : Int) (rr : Rec) (bs br : Int) (way : List Fr) : Prop where
  i0 : 0 ≤ i ∧ i ≤ 1000
  bs1 : 1 ≤ bs ∧ bs ≤ 1 + i
  br1 : 1 ≤ br ∧ br ≤ 1 + i
  ts : 0 ≤ st ∧ st ≤ br
  tr : 0 ≤ rt ∧ rt ≤ bs
  os : okL ss
  ws : Wf ss
  or : okR rr
  wr : WfR rr
  ro0 : 0 ≤ ro
  es : st = 0 → su = false ∧ ss = zSend
  er : rt = 0 → ru = false ∧ ro = 0 ∧ rr = zRec
  rk : rr.kp = []
  rg : ro + rr.g ≤ 40 * i
  zs : rt < bs → ss = zSend
  ns : ru = false → rr = zRec
  dd : rt = bs → ru = true → st = br
  i1 : rt = bs → st = br → I1 ss rr
  i2 : rt = bs → st < br → ss.g ≤ ro + ss.n + ss.r
  fr : ∀ f ∈ way, FrI st ss rt ro rr bs br f
/-- the first state -/
theorem inv_zero : Inv 0 0 false zSend 0 false 0 zRec 1 1 [] :=
  ⟨by decide, by decide, by decide, by decide, by decide, okL_z, wf_z, okR_z, wfR_z, by decide, fun _ => ⟨rfl, rfl⟩, fun _ => ⟨rfl, rfl, rfl⟩, rfl, by decide, fun _ => rfl, fun _ => rfl, fun h => absurd h (by decide), fun h => absurd h (by decide), fun h => absurd h (by decide), (fun f hf => by cases hf)⟩
section
variable {i st : Int} {su : Bool} {ss : Led} {rt : Int} {ru : Bool} {ro : Int} {rr : Rec} {bs br : Int} {way : List Fr}
theorem Inv.next (h : Inv i st su ss rt ru ro rr bs br way) (hi : i < 1000) : Inv (i + 1) st su ss rt ru ro rr bs br way := by
  obtain ⟨a1, a2, a3, a4, a5, a6, a7, a8, a9, b1, b2, b3, b4, b5, b6, b7, b8, b9, c1, c2⟩ := h
  exact ⟨by omega, by omega, by omega, a4, a5, a6, a7, a8, a9, b1, b2, b3, b4, by omega, b6, b7, b8, b9, c1, c2⟩
theorem Inv.wfS (h : Inv i st su ss rt ru ro rr bs br way) : WfP (sP st su ss) := by
  have := h.ts; have := h.br1; have := h.i0
  exact ⟨(by show 0 ≤ st ∧ st ≤ _; omega), (by show (0 : Int) ≤ 0 ∧ (0 : Int) ≤ _; decide), h.ws, wfR_z⟩
theorem Inv.wfR (h : Inv i st su ss rt ru ro rr bs br way) : WfP (rP rt ru ro rr) := by
  have := h.tr; have := h.bs1; have := h.i0; have := h.ro0; have := h.rg; have := h.wr.g
  exact ⟨(by show 0 ≤ rt ∧ rt ≤ _; omega), (by show 0 ≤ ro ∧ ro ≤ _; omega), wf_z, h.wr⟩
theorem Inv.okS (h : Inv i st su ss rt ru ro rr bs br way) : chkP (sP st su ss) = 0 := by
  have h1 := h.ts; have h2 := h.br1; have h3 := h.i0
  refine chkP_mk ?_ h.os okR_z fun e => ?_
  · rintro (c | c | c | c)
    · exact absurd c (by decide : ¬ (2 : Int) < 1)
    · exact absurd c (by decide : ¬ (16 : Int) < 2)
    · have c : 1099511627776 < st := c
      omega
    · exact absurd c (by decide : ¬ (1125899906842624 : Int) < 0)
  · obtain ⟨e1, e2⟩ := h.es e
    rw [e1, e2]
    exact ⟨rfl, rfl, rfl, rfl, rfl, rfl, rfl, rfl, rfl, rfl, rfl⟩
theorem Inv.okR' (h : Inv i st su ss rt ru ro rr bs br way) : chkP (rP rt ru ro rr) = 0 := by
  have h1 := h.tr; have h2 := h.bs1; have h3 := h.i0; have h4 := h.ro0; have h5 := h.rg; have h6 := h.wr.g
  refine chkP_mk ?_ okL_z h.or fun e => ?_
  · rintro (c | c | c | c)
    · exact absurd c (by decide : ¬ (1 : Int) < 1)
    · exact absurd c (by decide : ¬ (16 : Int) < 1)
    · have c : 1099511627776 < rt := c
      omega
    · have c : 1125899906842624 < ro := c
      omega
  · obtain ⟨e1, e2, e3⟩ := h.er e
    rw [e1, e2, e3]
    exact ⟨rfl, rfl, rfl, rfl, rfl, rfl, rfl, rfl, rfl, rfl, rfl⟩
theorem i1_end (hr : okR rr) (h : I1 ss rr) : rr.fl + szs rr.tk rr.tk.length ≤ ss.n := by
  obtain ⟨_, _, h3, h4⟩ := h
  have e := (szs_le (okR_of hr) rr.tk.length (Nat.le_refl _)).2
  have he : endK rr rr.tk.length ≤ ss.n := by
    cases hl : rr.tk.length with
    | zero => exact h3
    | succ k => exact h4 k (by omega)
  omega
theorem Inv.resv0 (h : Inv i st su ss rt ru ro rr bs br way) : 0 ≤ resv rr ∧ resv rr ≤ rr.g := resv_b (okR_of h.or) h.wr.fl.1 h.wr.r.1
/-- what the receiver has promised holds what the sender may still use -/
theorem Inv.bound (h : Inv i st su ss rt ru ro rr bs br way) (ht : rt = bs) : ss.g ≤ ro + resv rr + ss.n + ss.r := by
  have hrb := h.resv0
  by_cases c : st = br
  · have q := h.i1 ht c
    have e := i1_end h.or q
    obtain ⟨h1, h2, h3, h4⟩ := q
    have hold := h.ro0
    unfold resv
    omega
  · have := h.i2 ht (by have := h.ts; omega)
    omega
theorem held_sP : heldP (sP st su ss) = 0 := by unfold heldP; show 0 + resv zRec = 0; rw [resv_z]; rfl
theorem held_rP : heldP (rP rt ru ro rr) = ro + resv rr := rfl
/-- the sender starts again -/
theorem Inv.restart_s (h : Inv i st su ss rt ru ro rr bs br way) (hi : i < 1000) : rstE (sP st su ss) = (sP st false zSend, 0) ∧ Inv (i + 1) st false zSend rt ru ro rr (bs + 1) br way := by
  constructor
  · unfold rstE
    rw [if_neg (fun c => c h.okS), held_sP, if_neg (by decide)]; rfl
  · have q := h.next hi
    have hb := h.bs1
    have ht := h.tr
    refine ⟨q.i0, by omega, q.br1, q.ts, by omega, okL_z, wf_z, q.or, q.wr, q.ro0, fun _ => ⟨rfl, rfl⟩, q.er, q.rk, q.rg, fun _ => rfl, q.ns, (fun e => by omega), (fun e => by omega), (fun e => by omega), fun f hf => ?_⟩
    obtain ⟨f1, f2, f3, f4⟩ := h.fr f hf
    refine ⟨f1, f2, f3, ?_⟩
    rcases f4 with ⟨g1, g2, g3, g4, g5⟩ | ⟨g1, g2, g3, g4, g5⟩
    · exact .inl ⟨g1, g2, g3, g4, fun _ e => by omega⟩
    · exact .inr ⟨g1, g2, by omega, g4, fun e => by omega⟩
/-- the receiver starts again -/
theorem Inv.restart_r (h : Inv i st su ss rt ru ro rr bs br way) (hi : i < 1000) : rstE (rP rt ru ro rr) = (rP rt false (ro + resv rr) zRec, 0) ∧ Inv (i + 1) st su ss rt false (ro + resv rr) zRec bs (br + 1) way := by
  have hr0 := h.resv0
  have ho := h.ro0
  have hg := h.rg
  have hi0 := h.i0
  constructor
  · unfold rstE
    rw [if_neg (fun c => c h.okR'), held_rP, if_neg (by omega)]; rfl
  · have q := h.next hi
    have hb := h.br1
    have ht := h.ts
    refine ⟨q.i0, q.bs1, by omega, by omega, q.tr, q.os, q.ws, okR_z, wfR_z, by omega, q.es, fun e => ⟨rfl, ?_, rfl⟩, rfl, by show _ + (0 : Int) ≤ _; omega, q.zs, fun _ => rfl, (fun _ e => by cases e), (fun _ e => by omega), fun e _ => h.bound e, fun f hf => ?_⟩
    · obtain ⟨_, e1, e2⟩ := h.er e
      rw [e1, e2, resv_z]; rfl
    · obtain ⟨f1, f2, f3, f4⟩ := h.fr f hf
      refine ⟨f1, f2, f3, ?_⟩
      rcases f4 with ⟨g1, g2, g3, g4, g5⟩ | ⟨g1, g2, g3, g4, g5⟩
      · refine .inl ⟨g1, g2, by omega, g4, fun k e => ?_⟩
        obtain ⟨q1, q2, q3⟩ := g5 k e
        have hte : rt = bs := by have := h.tr; omega
        refine ⟨fun _ e2 => by omega, fun e2 _ => ?_, q3⟩
        by_cases c : st = br
        · have w := h.i1 hte c
          have we := i1_end h.or w
          have := q1 e2 c
          obtain ⟨w1, w2, w3, w4⟩ := w
          unfold resv
          omega
        · have := q2 e2 (by omega)
          omega
      · exact .inr ⟨g1, g2, g3, g4, fun _ e => by omega⟩
/-- a frame goes under way -/
theorem Inv.put (h : Inv i st su ss rt ru ro rr bs br way) {f : Fr} (hf : FrI st ss rt ro rr bs br f) : Inv i st su ss rt ru ro rr bs br (way ++ [f]) := by
  obtain ⟨a1, a2, a3, a4, a5, a6, a7, a8, a9, b1, b2, b3, b4, b5, b6, b7, b8, b9, c1, c2⟩ := h
  refine ⟨a1, a2, a3, a4, a5, a6, a7, a8, a9, b1, b2, b3, b4, b5, b6, b7, b8, b9, c1, fun g hg => ?_⟩
  rcases List.mem_append.1 hg with e | e
  · exact c2 g e
  · rw [List.mem_singleton] at e; rw [e]; exact hf
theorem zBn_e : ∀ f : Fr, f.kind ≠ 3 → f.kind ≠ 5 → f.kind ≠ 6 → f.inE = 0 := fun f h1 h2 h3 => by
  unfold Fr.inE
  rw [if_neg h1, if_neg (fun c => c.elim h2 h3)]
/-- a frame without a bundle -/
theorem frB_ok {p : Pr} {node boot kind a b : Int} (hn : 1 ≤ node ∧ node ≤ 16) (hp : 1 ≤ p.node ∧ p.node ≤ 16) (hne : p.node ≠ node) (hb : 1 ≤ boot ∧ boot ≤ 1099511627776) (ht : p.theirs ≤ 1099511627776)
    (hk : (kind = 1 ∧ a = 0 ∧ b = 0) ∨ (kind = 2 ∧ b = 0) ∨ kind = 4) (ha : a ≤ 1125899906842624) (hbb : b ≤ 1125899906842624) : frE (frB p node boot kind a b) = 0 := by
  have hkk : kind = 1 ∨ kind = 2 ∨ kind = 4 := by omega
  have ho : ¬ (frB p node boot kind a b).out := by
    show ¬ (node < 1 ∨ 16 < node ∨ p.node < 1 ∨ 16 < p.node ∨ p.node = node ∨ boot < 1 ∨ 1099511627776 < boot ∨ 1099511627776 < p.theirs)
    omega
  have hbad : ¬ ((frB p node boot kind a b).aBig ∨ (frB p node boot kind a b).bBad) := by
    show ¬ ((kind ≠ 1 ∧ 1125899906842624 < a) ∨ ((kind = 3 ∧ a < b) ∨ (kind = 4 ∧ 1125899906842624 < b) ∨ (kind = 6 ∧ (b < 1 ∨ 3 < b))))
    omega
  have hin : (frB p node boot kind a b).inE = 0 := zBn_e _ (by show kind ≠ 3; omega) (by show kind ≠ 5; omega) (by show kind ≠ 6; omega)
  have hbare : (frB p node boot kind a b).bare := by
    show (kind = 1 → a = 0) ∧ (kind ≠ 3 ∧ kind ≠ 4 ∧ kind ≠ 6 → b = 0) ∧ (kind ≠ 5 ∧ kind ≠ 6 → (0 : Int) = 0 ∧ (0 : Int) = 0 ∧ (0 : Int) = 0) ∧ (kind ≠ 3 → zBn = zBn)
    exact ⟨by omega, by omega, fun _ => ⟨rfl, rfl, rfl⟩, fun _ => rfl⟩
  unfold frE
  rw [if_neg (by show ¬ (kind < 1 ∨ 7 < kind); omega), if_neg ho, if_neg hbad, if_neg (fun c => c hin), if_neg (fun c => c hbare)]
theorem flr_b (hs : okL ss) (hw : Wf ss) : 0 ≤ flr ss ∧ flr ss ≤ ss.n := by
  obtain ⟨_, _, _, _, g⟩ := (okL_iff ss).1 hs
  obtain ⟨_, w2, _, w4⟩ := hw
  unfold flr
  cases hl : ss.sl with
  | nil => exact ⟨w2.1, Int.le_refl _⟩
  | cons y l =>
    rw [hl] at g
    have := slotE_zero.1 g.1
    have := w4 y (by rw [hl]; simp)
    show 0 ≤ y.off ∧ y.off ≤ ss.n
    omega
theorem okL_n (hs : okL ss) (hw : Wf ss) : ss.g ≤ 1125899906842624 ∧ 0 ≤ ss.n ∧ 0 ≤ ss.r ∧ ss.n + ss.r ≤ ss.g := by
  obtain ⟨a, b, c, _, _⟩ := (okL_iff ss).1 hs
  obtain ⟨w1, w2, w3, _⟩ := hw
  omega
/-- the frames of the sender -/
theorem Inv.hello_s (h : Inv i st su ss rt ru ro rr bs br way) : FrI st ss rt ro rr bs br (frB (sP st su ss) 1 bs 1 0 0) := by
  have h1 := h.ts; have h2 := h.br1; have h3 := h.i0; have h4 := h.bs1
  refine ⟨frB_ok (by decide) (by show 1 ≤ (2 : Int) ∧ (2 : Int) ≤ 16; decide) (by show (2 : Int) ≠ 1; decide) (by omega) (by show st ≤ _; omega) (.inl ⟨rfl, rfl, rfl⟩) (by decide) (by decide), Int.le_refl _, Int.le_refl _, .inr ⟨rfl, rfl, Int.le_refl _, Int.le_refl _, fun _ _ => ⟨fun e => ?_, fun e => ?_⟩⟩⟩
  · exact absurd e (by show ¬ (1 : Int) = 3; decide)
  · exact absurd e (by show ¬ (1 : Int) = 4; decide)
theorem Inv.report_s (h : Inv i st su ss rt ru ro rr bs br way) : FrI st ss rt ro rr bs br (frB (sP st su ss) 1 bs 4 (flr ss) ss.r) := by
  have h1 := h.ts; have h2 := h.br1; have h3 := h.i0; have h4 := h.bs1
  have hf := flr_b h.os h.ws
  have hn := okL_n h.os h.ws
  refine ⟨frB_ok (by decide) (by show 1 ≤ (2 : Int) ∧ (2 : Int) ≤ 16; decide) (by show (2 : Int) ≠ 1; decide) (by omega) (by show st ≤ _; omega) (.inr (.inr rfl)) (by omega) (by omega), hf.1, hn.2.2.1, .inr ⟨rfl, rfl, Int.le_refl _, Int.le_refl _, fun _ _ => ⟨fun e => ?_, fun e => ⟨hf.2, Int.le_refl _⟩⟩⟩⟩
  exact absurd e (by show ¬ (4 : Int) = 3; decide)
/-- the frames of the receiver -/
theorem Inv.hello_r (h : Inv i st su ss rt ru ro rr bs br way) : FrI st ss rt ro rr bs br (frB (rP rt ru ro rr) 2 br 1 0 0) := by
  have h1 := h.tr; have h2 := h.br1; have h3 := h.i0; have h4 := h.bs1
  refine ⟨frB_ok (by decide) (by show 1 ≤ (1 : Int) ∧ (1 : Int) ≤ 16; decide) (by show (1 : Int) ≠ 2; decide) (by omega) (by show rt ≤ _; omega) (.inl ⟨rfl, rfl, rfl⟩) (by decide) (by decide), Int.le_refl _, Int.le_refl _, .inl ⟨rfl, rfl, Int.le_refl _, Int.le_refl _, fun e => ?_⟩⟩
  exact absurd e (by show ¬ (1 : Int) = 2; decide)
theorem Inv.grant_r (h : Inv i st su ss rt ru ro rr bs br way) : FrI st ss rt ro rr bs br (frB (rP rt ru ro rr) 2 br 2 rr.g 0) := by
  have h1 := h.tr; have h2 := h.br1; have h3 := h.i0; have h4 := h.bs1; have h5 := h.ts
  have hg := (okR_of h.or).g
  refine ⟨frB_ok (by decide) (by show 1 ≤ (1 : Int) ∧ (1 : Int) ≤ 16; decide) (by show (1 : Int) ≠ 2; decide) (by omega) (by show rt ≤ _; omega) (.inr (.inl ⟨rfl, rfl⟩)) hg (by decide), h.wr.g.1, Int.le_refl _, .inl ⟨rfl, rfl, Int.le_refl _, Int.le_refl _, fun _ e => ⟨fun _ _ => Int.le_refl _, fun e2 e3 => ?_, fun e2 => ?_⟩⟩⟩
  · have e2 : br = st := e2
    omega
  · have e2 : st < br := e2
    have e : rt = bs := e
    have : ru = false := by
      cases hru : ru with
      | false => rfl
      | true => have := h.dd e hru; omega
    have := h.ns this
    show rr.g = 0
    rw [this]; rfl
/-- the receiver grants more -/
theorem Inv.more (h : Inv i st su ss rt ru ro rr bs br way) (hi : i < 1000) (hrt : 0 < rt) (hru : ru = true) {z : Int} (hz : 1 ≤ z ∧ z ≤ 40) (hor : okR { rr with g := rr.g + z }) : Inv (i + 1) st su ss rt ru ro { rr with g := rr.g + z } bs br way := by
  have q := h.next hi
  have hr := (okR_of h.or).g
  refine ⟨q.i0, q.bs1, q.br1, q.ts, q.tr, q.os, q.ws, hor, ⟨by have := h.wr.g; show 0 ≤ rr.g + z ∧ rr.g + z ≤ _; omega, h.wr.r, h.wr.fl, h.wr.tk, h.wr.kp⟩, q.ro0, q.es, (fun e => by omega), q.rk, ?_, q.zs, (fun e => by rw [hru] at e; cases e), q.dd, ?_, q.i2, fun f hf => ?_⟩
  · have := h.rg
    show ro + (rr.g + z) ≤ _
    omega
  · intro e1 e2
    obtain ⟨w1, w2, w3, w4⟩ := h.i1 e1 e2
    exact ⟨by show ss.g ≤ rr.g + z; omega, w2, w3, w4⟩
  · obtain ⟨f1, f2, f3, f4⟩ := h.fr f hf
    refine ⟨f1, f2, f3, ?_⟩
    rcases f4 with ⟨g1, g2, g3, g4, g5⟩ | g
    · refine .inl ⟨g1, g2, g3, g4, fun k e => ?_⟩
      obtain ⟨q1, q2, q3⟩ := g5 k e
      exact ⟨fun e1 e2 => by have := q1 e1 e2; show f.a ≤ rr.g + z; omega, q2, q3⟩
    · exact .inr g
/-- the sender's ledger grows: an offer -/
theorem Inv.offer (h : Inv i st su ss rt ru ro rr bs br way) (hi : i < 1000) (hst : 0 < st) {z node seq io : Int} (hz : 1 ≤ z) (hu : z ≤ usab ss) (hos : okL { ss with sl := ss.sl ++ [⟨ss.n, z, node, seq, io⟩], n := ss.n + z }) (hwf : Wf { ss with sl := ss.sl ++ [⟨ss.n, z, node, seq, io⟩], n := ss.n + z }) :
    Inv (i + 1) st su { ss with sl := ss.sl ++ [⟨ss.n, z, node, seq, io⟩], n := ss.n + z } rt ru ro rr bs br way := by
  have q := h.next hi
  have hte : rt = bs := by
    by_cases c : rt < bs
    · have := h.zs c
      rw [this] at hu
      have : usab zSend = 0 := by decide
      omega
    · have := h.tr; omega
  refine ⟨q.i0, q.bs1, q.br1, q.ts, q.tr, hos, hwf, q.or, q.wr, q.ro0, (fun e => by omega), q.er, q.rk, q.rg, (fun e => by omega), q.ns, q.dd, ?_, ?_, fun f hf => ?_⟩
  · intro e1 e2
    obtain ⟨w1, w2, w3, w4⟩ := h.i1 e1 e2
    exact ⟨w1, w2, by show rr.fl ≤ ss.n + z; omega, fun j hj => by have := w4 j hj; show _ ≤ ss.n + z; omega⟩
  · intro e1 e2
    have := h.i2 e1 e2
    show ss.g ≤ ro + (ss.n + z) + ss.r
    omega
  · obtain ⟨f1, f2, f3, f4⟩ := h.fr f hf
    refine ⟨f1, f2, f3, ?_⟩
    rcases f4 with ⟨g1, g2, g3, g4, g5⟩ | ⟨g1, g2, g3, g4, g5⟩
    · refine .inl ⟨g1, g2, g3, g4, fun k e => ?_⟩
      obtain ⟨q1, q2, q3⟩ := g5 k e
      exact ⟨q1, fun e1 e2 => by have := q2 e1 e2; show f.a ≤ ro + (ss.n + z) + ss.r; omega, q3⟩
    · refine .inr ⟨g1, g2, g3, g4, fun e1 e2 => ?_⟩
      obtain ⟨d1, d2⟩ := g5 e1 e2
      exact ⟨fun k => by have := d1 k; show f.b ≤ ss.n + z; omega, fun k => by have := d2 k; exact ⟨by show f.a ≤ ss.n + z; omega, this.2⟩⟩
/-- the sender learns a greater boot -/
theorem Inv.learn_s (h : Inv i st su ss rt ru ro rr bs br way) {f : Fr} (hf : f ∈ way) (hto : f.to = 1) (hlt : st < f.mine) : Inv i f.mine false zSend rt ru ro rr bs br way := by
  obtain ⟨f1, f2, f3, f4⟩ := h.fr f hf
  have hm : f.mine ≤ br := by
    rcases f4 with ⟨g1, g2, g3, _⟩ | ⟨g1, _⟩
    · exact g3
    · rw [hto] at g1; exact absurd g1 (by decide)
  have hts := h.ts
  have hns : rt = bs → ru = false := fun e => by
    cases hru : ru with
    | false => rfl
    | true => have := h.dd e hru; omega
  refine ⟨h.i0, h.bs1, h.br1, by omega, h.tr, okL_z, wf_z, h.or, h.wr, h.ro0, (fun e => by omega), h.er, h.rk, h.rg, fun _ => rfl, h.ns, (fun e1 e2 => by rw [hns e1] at e2; cases e2), ?_, ?_, fun g hg => ?_⟩
  · intro e1 _
    rw [h.ns (hns e1)]
    exact ⟨Int.le_refl _, Int.le_refl _, Int.le_refl _, fun j hj => by cases hj⟩
  · intro _ _
    have := h.ro0
    show (0 : Int) ≤ ro + 0 + 0
    omega
  · obtain ⟨q1, q2, q3, q4⟩ := h.fr g hg
    refine ⟨q1, q2, q3, ?_⟩
    rcases q4 with ⟨g1, g2, g3, g4, g5⟩ | ⟨g1, g2, g3, g4, g5⟩
    · refine .inl ⟨g1, g2, g3, g4, fun k e => ?_⟩
      obtain ⟨_, _, w3⟩ := g5 k e
      have hro := h.ro0
      have hrg := h.wr.g.1
      exact ⟨fun e1 _ => by have := w3 (by omega); omega, fun e1 _ => by have := w3 (by omega); show g.a ≤ ro + 0 + 0; omega, fun e1 => w3 (by omega)⟩
    · exact .inr ⟨g1, g2, g3, by omega, fun e1 e2 => by omega⟩
theorem Inv.sure_s (h : Inv i st su ss rt ru ro rr bs br way) (hst : 0 < st) : Inv i st true ss rt ru ro rr bs br way := by
  obtain ⟨a1, a2, a3, a4, a5, a6, a7, a8, a9, b1, b2, b3, b4, b5, b6, b7, b8, b9, c1, c2⟩ := h
  exact ⟨a1, a2, a3, a4, a5, a6, a7, a8, a9, b1, (fun e => by omega), b3, b4, b5, b6, b7, b8, b9, c1, c2⟩
/-- a grant arrives -/
theorem Inv.granted (h : Inv i st su ss rt ru ro rr bs br way) {f : Fr} (hf : f ∈ way) (hto : f.to = 1) (hk : f.kind = 2) (hm : f.mine = st) (hy : f.yours = bs) (hgt : ss.g < f.a) (hos : okL { ss with g := f.a }) (hwf : Wf { ss with g := f.a }) (hst : 0 < st) :
    Inv i st su { ss with g := f.a } rt ru ro rr bs br way := by
  obtain ⟨f1, f2, f3, f4⟩ := h.fr f hf
  obtain ⟨q1, q2, q3⟩ : GB st ss ro rr br f := by
    rcases f4 with ⟨_, _, _, _, g5⟩ | ⟨g1, _⟩
    · exact g5 hk hy
    · rw [hto] at g1; exact absurd g1 (by decide)
  have hte : rt = bs := by
    rcases f4 with ⟨_, _, _, g4, _⟩ | ⟨g1, _⟩
    · have := h.tr; omega
    · rw [hto] at g1; exact absurd g1 (by decide)
  refine ⟨h.i0, h.bs1, h.br1, h.ts, h.tr, hos, hwf, h.or, h.wr, h.ro0, (fun e => by omega), h.er, h.rk, h.rg, (fun e => by omega), h.ns, h.dd, ?_, ?_, h.fr⟩
  · intro e1 e2
    obtain ⟨w1, w2, w3, w4⟩ := h.i1 e1 e2
    exact ⟨q1 hm e2, w2, w3, w4⟩
  · intro _ e2
    exact q2 hm e2
/-- the receiver learns a greater boot -/
theorem Inv.learn_r (h : Inv i st su ss rt ru ro rr bs br way) {f : Fr} (hf : f ∈ way) (hto : f.to = 2) (hlt : rt < f.mine) : Inv i st su ss f.mine false 0 zRec bs br way := by
  obtain ⟨f1, f2, f3, f4⟩ := h.fr f hf
  have hm : f.mine ≤ bs := by
    rcases f4 with ⟨g1, _⟩ | ⟨_, _, g3, _⟩
    · rw [hto] at g1; exact absurd g1 (by decide)
    · exact g3
  have htr := h.tr
  have hz := h.zs (by omega)
  refine ⟨h.i0, h.bs1, h.br1, h.ts, by omega, h.os, h.ws, okR_z, wfR_z, Int.le_refl _, h.es, (fun e => by omega), rfl, by have := h.i0; show (0 : Int) + 0 ≤ _; omega, fun _ => hz, fun _ => rfl, (fun _ e => by cases e), ?_, ?_, fun g hg => ?_⟩
  · intro _ _
    rw [hz]
    exact ⟨Int.le_refl _, Int.le_refl _, Int.le_refl _, fun j hj => by cases hj⟩
  · intro _ _
    rw [hz]
    exact Int.le_refl _
  · obtain ⟨q1, q2, q3, q4⟩ := h.fr g hg
    refine ⟨q1, q2, q3, ?_⟩
    rcases q4 with ⟨g1, g2, g3, g4, g5⟩ | g
    · exact .inl ⟨g1, g2, g3, by omega, fun k e => by omega⟩
    · exact .inr g
/-- the receiver meets a fresh frame -/
theorem Inv.sure_r (h : Inv i st su ss rt ru ro rr bs br way) {f : Fr} (hf : f ∈ way) (hto : f.to = 2) (hm : f.mine = rt) (hy : f.yours = br) (hrt : 0 < rt) : Inv i st su ss rt true 0 rr bs br way := by
  obtain ⟨f1, f2, f3, f4⟩ := h.fr f hf
  have hyo : f.yours ≤ st := by
    rcases f4 with ⟨g1, _⟩ | ⟨_, _, _, g4, _⟩
    · rw [hto] at g1; exact absurd g1 (by decide)
    · exact g4
  have hts := h.ts
  have hst : st = br := by omega
  refine ⟨h.i0, h.bs1, h.br1, h.ts, h.tr, h.os, h.ws, h.or, h.wr, Int.le_refl _, h.es, (fun e => by omega), h.rk, by have := h.rg; have := h.ro0; omega, h.zs, (fun e => by cases e), fun _ _ => hst, h.i1, (fun _ e => by omega), fun g hg => ?_⟩
  obtain ⟨q1, q2, q3, q4⟩ := h.fr g hg
  refine ⟨q1, q2, q3, ?_⟩
  rcases q4 with ⟨g1, g2, g3, g4, g5⟩ | g
  · refine .inl ⟨g1, g2, g3, g4, fun k e => ?_⟩
    obtain ⟨w1, w2, w3⟩ := g5 k e
    exact ⟨w1, fun _ e2 => by omega, w3⟩
  · exact .inr g
/-- the receiver's ledger changes, the sum that was granted does not -/
theorem Inv.used (h : Inv i st su ss rt ru ro rr bs br way) (hru : ru = true) (hrt : 0 < rt) {r' : Rec} (hg : r'.g = rr.g) (hk : r'.kp = []) (hor : okR r') (hwr : WfR r')
    (hI : rt = bs → st = br → r'.r ≤ ss.r ∧ r'.fl ≤ ss.n ∧ ∀ j, j < r'.tk.length → (rgAt r'.tk j).t ≤ ss.n) : Inv i st su ss rt ru ro r' bs br way := by
  refine ⟨h.i0, h.bs1, h.br1, h.ts, h.tr, h.os, h.ws, hor, hwr, h.ro0, h.es, (fun e => by omega), hk, by rw [hg]; exact h.rg, h.zs, (fun e => by rw [hru] at e; cases e), h.dd, ?_, h.i2, fun g hgm => ?_⟩
  · intro e1 e2
    have := h.i1 e1 e2
    exact ⟨by rw [hg]; exact this.1, hI e1 e2⟩
  · obtain ⟨q1, q2, q3, q4⟩ := h.fr g hgm
    refine ⟨q1, q2, q3, ?_⟩
    rcases q4 with ⟨g1, g2, g3, g4, g5⟩ | g
    · refine .inl ⟨g1, g2, g3, g4, fun k e => ?_⟩
      obtain ⟨w1, w2, w3⟩ := g5 k e
      exact ⟨fun e1 e2 => by rw [hg]; exact w1 e1 e2, w2, w3⟩
    · exact .inr g
/-- the inequality -/
theorem Inv.holds (h : Inv i st su ss rt ru ro rr bs br way) (ht : rt = bs) : usab ss + (if st = br then opn' rr ss.sl else 0) ≤ ro + resv rr := by
  by_cases c : st = br
  · rw [if_pos c]
    obtain ⟨w1, w2, w3, w4⟩ := h.i1 ht c
    have := cred_key h.os h.ws h.or h.wr w1 w2 w3 w4
    have := h.ro0
    omega
  · rw [if_neg c]
    have := h.bound ht
    unfold usab
    omega
end
end Go.Proofs.Ytfgkkflbpfocjaa

