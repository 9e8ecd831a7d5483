/- PolicyKnown: the walk. -/
import Derived.Test.YtlpdebbedoibiaaM
import Derived.Test.YtlpdebbedoibiaaO
namespace Go.Proofs.Ytlpdebbedoibiaa
open Go.RowKit
set_option linter.unusedVariables false
set_option linter.unusedSimpArgs false

/-- shares of known number and an error are returned -/
def RetShEN (n : Nat) (l : List Sh) (w : World) (e : Ending) (w' : World) : Prop := ∃ A c, e = .returned (.tuple #[.slice A n c, .int .i64 0]) ∧ ShAt w' (.slice A n c) l ∧ Below w.heap.size w w'
theorem RetShE.n {n : Nat} {l : List Sh} {w w' : World} {e : Ending} (h : RetShE l 0 w e w') (hn : l.length = n) : RetShEN n l w e w' := by
  subst hn
  obtain ⟨A, c, he, ho, hb⟩ := h
  exact ⟨A, c, he, SlAt.own ho, hb⟩
theorem Grants_at (l : List Cl) (hw : ClWf l) (F L W v0 : Int) (n : Nat) (hF : 0 ≤ F) (hL0 : 0 ≤ L) (hW : 0 ≤ W) (hk : askE l [F, L, W] = 0) (hv : IsUp (lev (act l)) W (over F L) v0) (S : List Sh) (hS' : shUp (act l) (bump W v0 (lev (act l)) (over F L - needs (lev (act l)) v0)) = S) (hn : S.length = n) (v : Value) (w : World) (hS : ClAt w v l) :
    Calls Try.prog 17 #[v, .int .u64 F, .int .u64 L, .int .u64 W] w (RetShEN n S w) :=
  (Grants_ok l hw F L W hF hL0 hW hk v w hS).mono fun e w' ⟨v1, h1, h2⟩ => by rw [isUp_uniq h1 hv, hS'] at h2; exact h2.n hn
theorem Reclaims_at (l : List Cl) (hw : ClWf l) (F L v0 : Int) (n : Nat) (hF : 0 ≤ F) (hL0 : 0 ≤ L) (hk : askE l [F, L] = 0) (hv : IsDown (lev (act l)) 1125899906842624 (over L F) v0) (S : List Sh) (hS' : shDown (act l) (dip v0 (lev (act l)).reverse (over L F - gives (lev (act l)) v0)).reverse = S) (hn : S.length = n) (v : Value) (w : World) (hS : ClAt w v l) :
    Calls Try.prog 19 #[v, .int .u64 F, .int .u64 L] w (RetShEN n S w) :=
  (Reclaims_ok l hw F L hF hL0 hk v w hS).mono fun e w' ⟨v1, h1, h2⟩ => by rw [isDown_uniq h1 hv, hS'] at h2; exact h2.n hn
theorem Levels_at (l : List Cl) (hw : ClWf l) (W A v0 a b : Int) (hW : 0 ≤ W) (hA : 0 ≤ A) (hk : askE l [W, A] = 0) (hv : IsUp (lev l) W A v0) (ha : lo (bump W v0 (lev l) (A - needs (lev l) v0)) = a) (hb : top (bump W v0 (lev l) (A - needs (lev l) v0)) = b) (v : Value) (w : World) (hS : ClAt w v l) :
    Calls Try.prog 26 #[v, .int .u64 W, .int .u64 A] w (Ret3 a b 0 w) :=
  (Levels_ok l hw W A hW hA hk v w hS).mono fun e w' ⟨v1, h1, h2⟩ => by rw [isUp_uniq h1 hv, ha, hb] at h2; exact h2
def q3 : List Cl := cl3 10 40 0
theorem q3_wf : ClWf q3 := cl3_wf (by decide) (by decide) (by decide)
theorem nil_at (w : World) : ClAt w (.slice none 0 0) [] := SlAt.nil w 4

set_option maxRecDepth 100000 in
set_option maxHeartbeats 8000000 in
theorem PolicyKnown_t (w : World) : Calls Try.prog 8 #[] w (RetB true w) := by
  go_enter Try.func8, Try.ntmps8
  go_wp2_with fail
  refine (claims3 10 40 0 _ _).mono ?_
  rintro e w1 ⟨A1, c1, rfl, hS1, hb1⟩
  have HL1 : Hid (ClAt w1 (.slice A1 3 c1) q3) := hidI hS1
  have hB1 : Below w.heap.size w w1 := bnext (bal (Below.refl _ _) _) hb1
  clear hS1 hb1
  go_wp2_with fail
  refine (list6 1 40 2 10 3 50 (by decide) (by decide) (by decide) (by decide) (by decide) (by decide) _ _).mono ?_
  rintro e w2 ⟨A2, c2, rfl, hS2, hb2⟩
  have HT2 := Lib.hid hS2
  have HL2 := Lib.hid ((HL1.out.alloc _).below hb2)
  have hB2 : Below w.heap.size w w2 := bnext (bal hB1 _) hb2
  clear hS2 hb2 hB1 HL1
  go_wp2_with fail
  refine (fills_t q3 q3_wf 50 1000 50 (by decide) (by decide) (by decide) ⟨by decide, by decide, by decide, .inl rfl⟩ [⟨1, 40⟩, ⟨2, 10⟩, ⟨3, 50⟩] (by decide) _ _ _ HL2.out HT2.out).mono ?_
  rintro e w3 ⟨rfl, hb3⟩
  have HL3 := Lib.hid (HL2.out.below hb3)
  have hB3 : Below w.heap.size w w3 := bnext hB2 hb3
  clear hb3 hB2 HL2
  go_wp2_with fail
  refine (list4 1 10 3 20 (by decide) (by decide) (by decide) (by decide) _ _).mono ?_
  rintro e w4 ⟨A4, c4, rfl, hS4, hb4⟩
  have HT4 := Lib.hid hS4
  have HL4 := Lib.hid ((HL3.out.alloc _).below hb4)
  have hB4 : Below w.heap.size w w4 := bnext (bal hB3 _) hb4
  clear hS4 hb4 hB3 HL3
  go_wp2_with fail
  refine (fills_t q3 q3_wf 20 1000 20 (by decide) (by decide) (by decide) ⟨by decide, by decide, by decide, .inl rfl⟩ [⟨1, 10⟩, ⟨3, 20⟩] (by decide) _ _ _ HL4.out HT4.out).mono ?_
  rintro e w5 ⟨rfl, hb5⟩
  have HL5 := Lib.hid (HL4.out.below hb5)
  have hB5 : Below w.heap.size w w5 := bnext hB4 hb5
  clear hb5 hB4 HL4
  go_wp2_with fail
  refine (list2 2 25 (by decide) (by decide) _ _).mono ?_
  rintro e w6 ⟨A6, c6, rfl, hS6, hb6⟩
  have HT6 := Lib.hid hS6
  have HL6 := Lib.hid ((HL5.out.alloc _).below hb6)
  have hB6 : Below w.heap.size w w6 := bnext (bal hB5 _) hb6
  clear hS6 hb6 hB5 HL5
  go_wp2_with fail
  refine (lowers_t q3 q3_wf 25 15 (by decide) (by decide) ⟨by decide, by decide, by decide, .inr (by decide)⟩ [⟨2, 25⟩] (by decide) _ _ _ HL6.out HT6.out).mono ?_
  rintro e w7 ⟨rfl, hb7⟩
  have HL7 := Lib.hid (HL6.out.below hb7)
  have hB7 : Below w.heap.size w w7 := bnext hB6 hb7
  clear hb7 hB6 HL6
  go_wp2_with fail
  refine (list4 1 10 2 40 (by decide) (by decide) (by decide) (by decide) _ _).mono ?_
  rintro e w8 ⟨A8, c8, rfl, hS8, hb8⟩
  have HT8 := Lib.hid hS8
  have HL8 := Lib.hid ((HL7.out.alloc _).below hb8)
  have hB8 : Below w.heap.size w w8 := bnext (bal hB7 _) hb8
  clear hS8 hb8 hB7 HL7
  go_wp2_with fail
  refine (lowers_t q3 q3_wf 1000 0 (by decide) (by decide) ⟨by decide, by decide, by decide, .inl rfl⟩ [⟨1, 10⟩, ⟨2, 40⟩] (by decide) _ _ _ HL8.out HT8.out).mono ?_
  rintro e w9 ⟨rfl, hb9⟩
  have HL9 := Lib.hid (HL8.out.below hb9)
  have hB9 : Below w.heap.size w w9 := bnext hB8 hb9
  clear hb9 hB8 HL8
  go_wp2_with fail
  refine (Grants_at q3 q3_wf 100 70 50 20 2 (by decide) (by decide) (by decide) (by decide) ⟨by decide, by decide, by decide, .inr (by decide)⟩ [⟨1, 10⟩, ⟨3, 20⟩] (by decide) rfl _ _ HL9.out).mono ?_
  rintro e w10 ⟨Aa, ca, rfl, hSa, hb10⟩
  have HL10 := Lib.hid (HL9.out.below hb10)
  have hB10 : Below w.heap.size w w10 := bnext hB9 hb10
  clear hb10 hB9 HL9
  have HA := Lib.hid hSa
  clear hSa
  go_wp2_with fail
  refine (Grants_at q3 q3_wf 70 70 50 0 0 (by decide) (by decide) (by decide) (by decide) ⟨by decide, by decide, by decide, .inr (by decide)⟩ [] (by decide) rfl _ _ HL10.out).mono ?_
  rintro e w11 ⟨Ab, cb, rfl, hSb, hb11⟩
  have HL11 := Lib.hid (HL10.out.below hb11)
  have hB11 : Below w.heap.size w w11 := bnext hB10 hb11
  have HA_ := Lib.hid (HA.out.below hb11)
  clear HA
  have HA := Lib.hid HA_.out
  clear HA_
  clear hb11 hB10 HL10
  clear hSb
  go_wp2_with fail
  refine (Reclaims_at q3 q3_wf 60 70 30 1 (by decide) (by decide) (by decide) ⟨by decide, by decide, by decide, .inr (by decide)⟩ [⟨2, 10⟩] (by decide) rfl _ _ HL11.out).mono ?_
  rintro e w12 ⟨Ac, cc, rfl, hSc, hb12⟩
  have HL12 := Lib.hid (HL11.out.below hb12)
  have hB12 : Below w.heap.size w w12 := bnext hB11 hb12
  have HA_ := Lib.hid (HA.out.below hb12)
  clear HA
  have HA := Lib.hid HA_.out
  clear HA_
  clear hb12 hB11 HL11
  have HC := Lib.hid hSc
  clear hSc
  go_wp2_with fail
  refine (list4 1 10 3 20 (by decide) (by decide) (by decide) (by decide) _ _).mono ?_
  rintro e w13 ⟨A13, c13, rfl, hS13, hb13⟩
  have HT13 := Lib.hid hS13
  have HL13 := Lib.hid ((HL12.out.alloc _).below hb13)
  have hB13 : Below w.heap.size w w13 := bnext (bal hB12 _) hb13
  have HA_ := Lib.hid ((HA.out.alloc _).below hb13)
  clear HA
  have HA := Lib.hid HA_.out
  clear HA_
  have HC_ := Lib.hid ((HC.out.alloc _).below hb13)
  clear HC
  have HC := Lib.hid HC_.out
  clear HC_
  clear hS13 hb13 hB12 HL12
  go_wp2_with fail
  refine (same_t [⟨1, 10⟩, ⟨3, 20⟩] _ _ _ HA.out HT13.out).mono ?_
  rintro e w14 ⟨rfl, hb14⟩
  have HL14 := Lib.hid (HL13.out.below hb14)
  have hB14 : Below w.heap.size w w14 := bnext hB13 hb14
  have HC_ := Lib.hid (HC.out.below hb14)
  clear HC
  have HC := Lib.hid HC_.out
  clear HC_
  clear hb14 hB13 HL13
  go_wp2_with fail
  refine (list2 2 10 (by decide) (by decide) _ _).mono ?_
  rintro e w15 ⟨A15, c15, rfl, hS15, hb15⟩
  have HT15 := Lib.hid hS15
  have HL15 := Lib.hid ((HL14.out.alloc _).below hb15)
  have hB15 : Below w.heap.size w w15 := bnext (bal hB14 _) hb15
  have HC_ := Lib.hid ((HC.out.alloc _).below hb15)
  clear HC
  have HC := Lib.hid HC_.out
  clear HC_
  clear hS15 hb15 hB14 HL14
  go_wp2_with fail
  refine (same_t [⟨2, 10⟩] _ _ _ HC.out HT15.out).mono ?_
  rintro e w16 ⟨rfl, hb16⟩
  have HL16 := Lib.hid (HL15.out.below hb16)
  have hB16 : Below w.heap.size w w16 := bnext hB15 hb16
  clear hb16 hB15 HL15
  go_wp2_with fail
  refine (Levels_at q3 q3_wf 50 35 22 22 40 (by decide) (by decide) (by decide) ⟨by decide, by decide, by decide, .inr (by decide)⟩ (by decide) (by decide) _ _ HL16.out).mono ?_
  rintro e w17 ⟨rfl, hb17⟩
  have HL17 := Lib.hid (HL16.out.below hb17)
  have hB17 : Below w.heap.size w w17 := bnext hB16 hb17
  clear hb17 hB16 HL16
  go_wp2_with fail
  refine (Levels_at [] (by intro x hx; simp at hx) 50 35 50 0 0 (by decide) (by decide) (by decide) ⟨by decide, by decide, by decide, .inl rfl⟩ (by decide) (by decide) _ _ (nil_at _)).mono ?_
  rintro e w18 ⟨rfl, hb18⟩
  have HL18 := Lib.hid (HL17.out.below hb18)
  have hB18 : Below w.heap.size w w18 := bnext hB17 hb18
  clear hb18 hB17 HL17
  go_wp2_with fail
  refine (awake_t _).mono ?_
  rintro e w19 ⟨rfl, hb19⟩
  go_wp2_with fail
  go_ret
  exact ⟨rfl, bnext hB18 hb19⟩
end Go.Proofs.Ytlpdebbedoibiaa
