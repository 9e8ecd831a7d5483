/- Contracts: the chapter's examples that every statement asks. -/
import Derived.Test.YtdfppaafoecgmaaI
import Derived.Deep.RegionHeld3
import Derived.Deep.DeepCutAuto
namespace Go.Proofs.Ytdfppaafoecgmaa
open Go.RowKit
set_option linter.unusedVariables false
set_option linter.unusedSimpArgs false

set_option maxHeartbeats 1000000 in
theorem name_any (n : Int) (w : World) (h0 : 0 ≤ n) (h1 : n ≤ 1000000) :
    Calls Try.prog 31 #[.int .i64 n] w (fun e w' => e = .returned (.agg #[.int .i64 1, .int .u64 n, .int .i64 0]) ∧ Below w.heap.size w w') := by
  go_enter Try.func31, Try.ntmps31
  go_wp2_with fail
  exact bodyPost_ret (v := .agg #[.int .i64 1, .int .u64 n, .int .i64 0]) (by simp [results, Try.results31, go_sem]) rfl ⟨rfl, (by repeat (first | with_reducible exact Below.refl _ _ | with_reducible refine Below.drew ?_ | with_reducible refine below_drewN ?_ _ | with_reducible refine bal ?_ _ | with_reducible refine bset ?_ (by first | (simp; done) | (simp; omega)) _ | with_reducible refine bnext ?_ (by assumption) | with_reducible assumption))⟩

section
variable {W : World} {g k base n : Nat} {a b c d a' b' c' d' v : Value} {xs : List Value} {cs : Array Value}
theorem put4 (h : Blk W g 26 #[a, b, c, d]) : Blk ((((W.setCell ⟨g, 0, none⟩ a').setCell ⟨g, 1, none⟩ b').setCell ⟨g, 2, none⟩ c').setCell ⟨g, 3, none⟩ d') g 26 #[a', b', c', d'] := by
  simpa using (((h.set 0 a').set 1 b').set 2 c').set 3 d'
theorem put4_own (h : Blk W g 26 #[a, b, c, d]) (ho : W.ownsRow base 44 5 v n xs) : ((((W.setCell ⟨g, 0, none⟩ a').setCell ⟨g, 1, none⟩ b').setCell ⟨g, 2, none⟩ c').setCell ⟨g, 3, none⟩ d').ownsRow base 44 5 v n xs :=
  ho_far (ho_far (ho_far (ho_far ho h (by decide) _) (h.set 0 a') (by decide) _) ((h.set 0 a').set 1 b') (by decide) _) (((h.set 0 a').set 1 b').set 2 c') (by decide) _
theorem put4_far (h : Blk W k 26 cs) (hne : k ≠ g) : Blk ((((W.setCell ⟨g, 0, none⟩ a').setCell ⟨g, 1, none⟩ b').setCell ⟨g, 2, none⟩ c').setCell ⟨g, 3, none⟩ d') k 26 cs :=
  (((h.far hne _).far hne _).far hne _).far hne _
end

/-- a ledger that is returned: its value and its slots -/
def LedRes (s : Led) (num err : Int) (w : World) (e : Ending) (w' : World) : Prop :=
  ∃ A c, e = .returned (.tuple #[.agg #[.int .u64 s.g, .int .u64 s.n, .int .u64 s.r, .slice A s.sl.length c], .int .u64 num, .int .i64 err]) ∧ OwnL w w' (.slice A s.sl.length c) s.sl ∧ Below w.heap.size w w'
theorem ledRes_of {r : Led × Int × Int} {s : Led} {num err : Int} (h : r = (s, num, err)) {w : World} {e : Ending} {w' : World} (hp : LedPost r w e w') : LedRes s num err w e w' := by
  subst h
  obtain ⟨v', he, ho, hb⟩ := hp
  obtain ⟨A, c, rfl, _⟩ := id (SlAt.own ho)
  exact ⟨A, c, he, ho, hb⟩

def led0 : Led := ⟨100, 0, 0, []⟩
def led1 : Led := ⟨100, 30, 0, [⟨0, 30, 1, 1, 0⟩]⟩
def led2 : Led := ⟨100, 80, 0, [⟨0, 30, 1, 1, 0⟩, ⟨30, 50, 1, 2, 0⟩]⟩
theorem wf0 : Wf led0 := ⟨by decide, by decide, by decide, by decide⟩
theorem wf1 : Wf led1 := ⟨by decide, by decide, by decide, by decide⟩
theorem wf2 : Wf led2 := ⟨by decide, by decide, by decide, by decide⟩

theorem offer1 (w : World) : Calls Try.prog 23 #[.agg #[.int .u64 100, .int .u64 0, .int .u64 0, .slice none 0 0], .int .u64 30, .agg #[.int .i64 1, .int .u64 1, .int .i64 0]] w (LedRes led1 0 0 w) :=
  (Offer_any led0 wf0 30 1 1 0 (by decide) (by decide) (.slice none 0 0) w (SlAt.nil w 5)).mono fun _ _ h => ledRes_of (by decide) h
def Res2 (w : World) (e : Ending) (w' : World) : Prop :=
  ∃ A c, e = .returned (.tuple #[.agg #[.int .u64 100, .int .u64 80, .int .u64 0, .slice A 2 c], .int .u64 30, .int .i64 0]) ∧ OwnL w w' (.slice A 2 c) led2.sl ∧ Below w.heap.size w w'
theorem offer2 (v : Value) (w : World) (hS : SlAt w 5 v 1 (flat led1.sl)) : Calls Try.prog 23 #[.agg #[.int .u64 100, .int .u64 30, .int .u64 0, v], .int .u64 50, .agg #[.int .i64 1, .int .u64 2, .int .i64 0]] w (Res2 w) :=
  (Offer_any led1 wf1 50 1 2 0 (by decide) (by decide) v w hS).mono fun _ _ h => by
    obtain ⟨A, c, he, ho, hb⟩ := ledRes_of (s := led2) (num := 30) (err := 0) (by decide) h
    exact ⟨A, c, he, ho, hb⟩

def TwoPost (w : World) (e : Ending) (w' : World) : Prop :=
  ∃ A c, e = .returned (.tuple #[.agg #[.int .u64 100, .int .u64 80, .int .u64 0, .slice A 2 c], .bool true]) ∧ OwnL w w' (.slice A 2 c) led2.sl ∧ Below w.heap.size w w'

/-- what lies behind the second offer -/
def TwoMid (w : World) (s5 s6 s7 : Value) (wx : World) : Prop := ∃ (g : Nat) (A : Option Addr) (c : Nat), s5 = .pointer (some ⟨g, 0, none⟩) ∧ s6 = .int .u64 30 ∧ s7 = .int .i64 0 ∧ Blk wx g 26 #[.int .u64 100, .int .u64 80, .int .u64 0, .slice A 2 c] ∧
  OwnL w wx (.slice A 2 c) led2.sl ∧ ¬ w.heap.size = g ∧ Blk wx w.heap.size 26 #[.int .u64 0, .int .u64 0, .int .u64 0, .slice none 0 0] ∧ Below w.heap.size w wx

set_option maxRecDepth 100000 in
set_option maxHeartbeats 2000000 in
theorem two_any (w : World) : Calls Try.prog 29 #[] w (TwoPost w) := by
  go_enter Try.func29, Try.ntmps29
  go_wp2_with fail
  refine (name_any 1 _ (by decide) (by decide)).mono ?_
  rintro e w1 ⟨rfl, hb1⟩
  go_wp2_with fail
  refine (offer1 _).mono ?_
  rintro e w2 ⟨A, c, rfl, hS, hb2⟩
  have HS : Hid (SlAt w2 5 (.slice A 1 c) 1 (flat led1.sl)) := Lib.hid (SlAt.own hS)
  clear hS
  dsimp only [led1, List.length_cons, List.length_nil]
  have hB1 : Below w.heap.size w w1 := bnext (bal (Below.refl _ _) _) hb1
  have hB2 : Below w.heap.size w w2 := bnext hB1 hb2
  have k0 := ((Blk.new w 26 #[.int .u64 0, .int .u64 0, .int .u64 0, .slice none 0 0]).below hb1).below hb2
  have hlt := k0.lt
  have K0 := Lib.hid k0
  clear k0
  go_upto_region 2 with fail
  go_cut [5, 6, 7] (fun s5 s6 s7 wx => TwoMid w s5 s6 s7 wx)
  case first =>
    have k20 := Lib.hid ((Blk.new w2 26 #[.int .u64 100, .int .u64 30, .int .u64 0, .slice A 1 c]))
    have k10 := Lib.hid (K0.out.alloc (.cells #[.int .u64 100, .int .u64 30, .int .u64 0, .slice A 1 c] 26))
    have hs20 := Lib.hid (HS.out.alloc (.cells #[.int .u64 100, .int .u64 30, .int .u64 0, .slice A 1 c] 26))
    have hB20 := bal hB2 (.cells #[.int .u64 100, .int .u64 30, .int .u64 0, .slice A 1 c] 26)
    clear K0 HS
    go_region_held3 (fun w' => w'.cell? ⟨w2.heap.size, 0, none⟩ = some (.int .u64 100) ∧ w'.cell? ⟨w2.heap.size, 1, none⟩ = some (.int .u64 30) ∧ w'.cell? ⟨w2.heap.size, 2, none⟩ = some (.int .u64 0) ∧ w'.cell? ⟨w2.heap.size, 3, none⟩ = some (.slice A 1 c)) (go_keep)
      (first
        | (go_at_call 31; refine (name_any 2 _ (by decide) (by decide)).mono ?_; rintro e w3 ⟨rfl, hb3⟩; (try have kn : Blk w3 (w2.heap.size + 1) 26 #[.int .u64 0, .int .u64 0, .int .u64 0, .slice none 0 0] := (by refine Blk.below ?_ hb3; refine Blk.drew ?_; exact Blk.new1 _ _ _ _)); have kb : Blk w3 w2.heap.size 26 #[.int .u64 100, .int .u64 30, .int .u64 0, .slice A 1 c] := (by refine Blk.below ?_ hb3; repeat (first | with_reducible exact k20.out | with_reducible refine Blk.alloc ?_ _ | with_reducible refine Blk.drew ?_)); have ka : Blk w3 w.heap.size 26 #[.int .u64 0, .int .u64 0, .int .u64 0, .slice none 0 0] := (by refine Blk.below ?_ hb3; repeat (first | with_reducible exact k10.out | with_reducible refine Blk.alloc ?_ _ | with_reducible refine Blk.drew ?_)); have hs3 : SlAt w3 5 (.slice A 1 c) 1 (flat led1.sl) := (by refine SlAt.below ?_ hb3; repeat (first | with_reducible exact hs20.out | with_reducible refine SlAt.alloc ?_ _ | with_reducible refine SlAt.drew ?_)); have hB3 : Below w.heap.size w w3 := (by repeat (first | with_reducible exact Below.refl _ _ | with_reducible refine Below.drew ?_ | with_reducible refine below_drewN ?_ _ | with_reducible refine bal ?_ _ | with_reducible refine bset ?_ (by first | (simp; done) | (simp; omega)) _ | with_reducible refine bnext ?_ (by assumption) | with_reducible assumption)); have q3 : ¬ w2.heap.size = w3.heap.size := Nat.ne_of_lt kb.lt; have q3' : ¬ w3.heap.size = w2.heap.size := fun e => q3 e.symm; have r3 : w.heap.size < w3.heap.size := ka.lt; have p3 : ¬ w.heap.size = w3.heap.size := Nat.ne_of_lt ka.lt; obtain ⟨c0, c1, c2, c3⟩ := kb.c4)
        | (go_at_call 23; refine (offer2 _ _ ?_).mono ?_; (repeat (first | with_reducible exact hs3 | with_reducible refine SlAt.alloc ?_ _ | with_reducible refine SlAt.drew ?_)); rintro e w4 ⟨A4, c4, rfl, hS4, hb4⟩; have hB4 : Below w.heap.size w w4 := (by repeat (first | with_reducible exact Below.refl _ _ | with_reducible refine Below.drew ?_ | with_reducible refine below_drewN ?_ _ | with_reducible refine bal ?_ _ | with_reducible refine bset ?_ (by first | (simp; done) | (simp; omega)) _ | with_reducible refine bnext ?_ (by assumption) | with_reducible assumption)); have kb4 : Blk w4 w2.heap.size 26 #[.int .u64 100, .int .u64 30, .int .u64 0, .slice A 1 c] := (by refine Blk.below ?_ hb4; repeat (first | with_reducible exact kb | with_reducible refine Blk.alloc ?_ _ | with_reducible refine Blk.drew ?_)); have ka4 : Blk w4 w.heap.size 26 #[.int .u64 0, .int .u64 0, .int .u64 0, .slice none 0 0] := (by refine Blk.below ?_ hb4; repeat (first | with_reducible exact ka | with_reducible refine Blk.alloc ?_ _ | with_reducible refine Blk.drew ?_)); (try have kn4 : Blk w4 (w2.heap.size + 1) 26 #[.int .u64 0, .int .u64 0, .int .u64 0, .slice none 0 0] := (by refine Blk.below ?_ hb4; first | with_reducible exact kn | with_reducible exact Blk.drew kn)); (try have kn4 : Blk w4 w3.heap.size 26 #[.int .u64 0, .int .u64 0, .int .u64 0, .slice none 0 0] := (by refine Blk.below ?_ hb4; first | with_reducible exact Blk.new _ _ _ | with_reducible exact Blk.drew (Blk.new _ _ _))); have q4 : ¬ w2.heap.size = w4.heap.size := Nat.ne_of_lt kb4.lt; have q4' : ¬ w4.heap.size = w2.heap.size := fun e => q4 e.symm; have p4 : ¬ w.heap.size = w4.heap.size := Nat.ne_of_lt ka4.lt; obtain ⟨d0, d1, d2, d3⟩ := kb4.c4; (try obtain ⟨n0, n1, n2, n3⟩ := kn4.c4); (try obtain ⟨m0, m1, m2, m3⟩ := kn4.f4); clear c0 c1 c2 c3 kb ka hs3))
    all_goals
      have hz2 := hB2.size
      have hz3 := hB3.size
      have hz4 := kb4.lt
      have hk4 := ka4.lt
      have ho4 := own_mono (base' := w.heap.size) hS4 (by first | omega | (simp; omega))
      clear q3 q3' p3 q4 q4' d0 d1 d2 d3
      go_wp2_with fail
      go_meet
      refine ⟨_, A4, c4, rfl, rfl, rfl, ?_, ?_, ?_, ?_, ?_⟩
      · first | with_reducible exact Blk.new _ _ _ | (with_reducible refine put4 (a := .int .u64 0) (b := .int .u64 0) (c := .int .u64 0) (d := .slice none 0 0) ?_; with_reducible exact kn4)
      · unfold OwnL
        first | with_reducible exact World.ownsRow.alloc ho4 _ | (with_reducible refine put4_own (a := .int .u64 0) (b := .int .u64 0) (c := .int .u64 0) (d := .slice none 0 0) ?_ ?_; with_reducible exact kn4; with_reducible exact ho4)
      · omega
      · first | with_reducible exact Blk.alloc ka4 _ | (with_reducible refine put4_far ?_ ?_; with_reducible exact ka4; omega)
      · exact (by repeat (first | with_reducible exact Below.refl _ _ | with_reducible refine Below.drew ?_ | with_reducible refine below_drewN ?_ _ | with_reducible refine bal ?_ _ | with_reducible refine bset ?_ (by first | (simp; done) | (simp; omega)) _ | with_reducible refine bnext ?_ (by assumption) | with_reducible assumption))
  case rest =>
    obtain ⟨g, A5, c5, rfl, rfl, rfl, hk, ho, hne, ka, hb⟩ := hcut
    have HK := Lib.hid ka
    have hlt5 := ka.lt
    obtain ⟨c0, c1, c2, c3⟩ := hk.c4
    obtain ⟨d0, d1, d2, d3⟩ := ka.c4
    obtain ⟨f0, f1, f2, f3⟩ := ka.f4
    have HO := Lib.hid ho
    clear hk ho ka
    have hne' : ¬ g = w.heap.size := fun e => hne e.symm
    go_wp2_with fail
    refine bodyPost_ret (v := .tuple #[.agg #[.int .u64 100, .int .u64 80, .int .u64 0, .slice A5 2 c5], .bool true]) (by simp [results, Try.results29, go_sem, c0, c1, c2, c3, d0, d1, d2, d3, hlt5]) rfl ⟨A5, c5, rfl, ?_, ?_⟩
    · exact put4_own HK.out HO.out
    · exact (by repeat (first | with_reducible exact Below.refl _ _ | with_reducible refine Below.drew ?_ | with_reducible refine below_drewN ?_ _ | with_reducible refine bal ?_ _ | with_reducible refine bset ?_ (by first | (simp; done) | (simp; omega)) _ | with_reducible refine bnext ?_ (by assumption) | with_reducible assumption))
end Go.Proofs.Ytdfppaafoecgmaa
