/- Contract: a step. -/
import Derived.Test.YtdfppaafoecgmaaPlain4
import Derived.Test.YtdfppaafoecgmaaS2
import Derived.Test.YtdfppaafoecgmaaS1
namespace Go.Proofs.Ytdfppaafoecgmaa
open Go.RowKit
set_option linter.unusedVariables false
set_option linter.unusedSimpArgs false

def StepPost (i : Nat) (s : Led) (w : World) (e : Ending) (w' : World) : Prop :=
  (∃ s' A c, e = .returned (.tuple #[.agg #[.int .u64 s'.g, .int .u64 s'.n, .int .u64 s'.r, .slice A s'.sl.length c], .int .i64 0]) ∧ OwnL w w' (.slice A s'.sl.length c) s'.sl ∧ Below w.heap.size w w' ∧ Step i s s') ∨
  (∃ A q, e = .returned (.tuple #[.agg #[.int .u64 0, .int .u64 0, .int .u64 0, .slice A 0 q], .int .i64 14]) ∧ Below w.heap.size w w')

set_option maxRecDepth 100000 in
set_option maxHeartbeats 8000000 in
theorem step_any (i : Nat) (hi40 : i ≤ 40) (s : Led) (hI : InvT i s) (x : Int) (v : Value) (w : World) (hS : SlAt w 5 v s.sl.length (flat s.sl)) :
    Calls Try.prog 33 #[.agg #[.int .u64 s.g, .int .u64 s.n, .int .u64 s.r, v], .int .i64 x, .int .i64 i] w (StepPost i s w) := by
  obtain ⟨g, n, r, l⟩ := s
  obtain ⟨A, c, rfl, hc1, hc2, _⟩ := id hS
  have hB0 : Below w.heap.size w ((w.alloc (.cells #[.int .u64 g, .int .u64 n, .int .u64 r, .slice A l.length c] 26)).alloc (.cells #[.int .u64 0, .int .u64 0, .int .u64 0, .slice none 0 0] 26)) := bal (bal (Below.refl _ _) _) _
  have HS := Lib.hid (hS.below hB0)
  have HI := Lib.hid hI
  have HW := Lib.hid hI.2.1
  have K0 := Lib.hid ((Blk.new w 26 #[.int .u64 g, .int .u64 n, .int .u64 r, .slice A l.length c]).alloc (.cells #[.int .u64 0, .int .u64 0, .int .u64 0, .slice none 0 0] 26))
  have KR := Lib.hid (Blk.new1 w (.cells #[.int .u64 g, .int .u64 n, .int .u64 r, .slice A l.length c] 26) 26 #[.int .u64 0, .int .u64 0, .int .u64 0, .slice none 0 0])
  obtain ⟨hg0, hrg, hng, hn0, hr0, _, hl100, hgm⟩ := inv_n hI
  clear hS hI
  unfold maxLen at hc2
  dsimp only at *
  go_enter Try.func33, Try.ntmps33
  go_wp2_with fail
  obtain ⟨W, hW⟩ : ∃ W, ((w.alloc (.cells #[.int .u64 g, .int .u64 n, .int .u64 r, .slice A l.length c] 26)).alloc (.cells #[.int .u64 0, .int .u64 0, .int .u64 0, .slice none 0 0] 26)) = W := ⟨_, rfl⟩
  rw [hW] at hB0 HS K0 KR ⊢
  clear hW
  refine (Mod_rng _ _ _ (by decide) (by decide)).mono ?_
  rintro e wq ⟨m, ⟨hm0, hm1⟩, rfl, rfl⟩
  obtain ⟨q, hq⟩ : ∃ q, m.tdiv 4 = q := ⟨_, rfl⟩
  have hq0 : 0 ≤ q ∧ q ≤ 262144 := by rw [← hq, Int.tdiv_eq_ediv_of_nonneg hm0]; omega
  obtain ⟨z, hz⟩ : ∃ z, q.tmod 50 = z := ⟨_, rfl⟩
  have hz0 : 0 ≤ z ∧ z < 50 := by rw [← hz, Int.tmod_eq_emod_of_nonneg hq0.1]; omega
  obtain ⟨d, hd⟩ : ∃ d, m.tmod 4 = d := ⟨_, rfl⟩
  have hd0 : 0 ≤ d ∧ d < 4 := by rw [← hd, Int.tmod_eq_emod_of_nonneg hm0]; omega
  have hz1 : 1 ≤ 1 + z := by omega
  have hz2 : 1 + z ≤ 50 := by omega
  have key : d = 0 ∨ d = 1 ∨ d = 2 ∨ d = 3 := by omega
  have k0 := K0.out
  have kr := KR.out
  obtain ⟨c0, c1, c2, c3⟩ := k0.c4
  obtain ⟨d0, d1, d2, d3⟩ := kr.c4
  obtain ⟨f0, f1, f2, f3⟩ := kr.f4
  have hlt0 := k0.lt
  have hlt1 := kr.lt
  have hzW : w.heap.size + 2 ≤ W.heap.size := by omega
  clear k0 kr
  go_upto_region 4 with fail
  rcases key with rfl | rfl | rfl | rfl
  · rcases offer_step HI.out hi40 hz1 hz2 with ⟨⟨ag, an, ar, al⟩, ak, hG, hST⟩ | hG
    · have HG := Lib.hid hG
      have HST := Lib.hid hST
      clear hG hST
      go_wp2_with fail
      refine (Offer_to HG.out HW.out (by omega) (by omega) _ _ HS.out).mono ?_
      rintro e w2 ⟨A2, q9, rfl, hown, hb2⟩
      have hB2 : Below w.heap.size w w2 := bnext hB0 hb2
      have k0 := K0.out.below hb2
      have kr := KR.out.below hb2
      clear c0 c1 c2 c3 d0 d1 d2 d3 f0 f1 f2 f3 hlt0 hlt1
      obtain ⟨d0, d1, d2, d3⟩ := kr.c4
      obtain ⟨f0, f1, f2, f3⟩ := kr.f4
      have hlt1 := kr.lt
      have KR2 := Lib.hid kr
      clear k0 kr
      have HO := Lib.hid hown
      clear hown
      go_wp2_with fail
      refine bodyPost_ret (v := .tuple #[.agg #[.int .u64 ag, .int .u64 an, .int .u64 ar, .slice A2 al.length q9], .int .i64 0]) (by simp [results, Try.results33, go_sem, d0, d1, d2, d3, hlt1]) rfl (.inl ⟨⟨ag, an, ar, al⟩, A2, q9, rfl, ?_, ?_, HST.out⟩)
      · unfold OwnL
        refine own_mono (base := w.heap.size + 2) ?_ (by omega)
        have q := own_mono (base' := w.heap.size + 2) HO.out (by first | omega | (simp; omega))
        repeat (first | with_reducible exact q | with_reducible refine World.ownsRow.drew ?_ | with_reducible refine World.ownsRow.alloc ?_ _ | with_reducible refine ownsRow_setCell_below ?_ (by simp; done) _)
      · exact (by repeat (first | with_reducible exact Below.refl _ _ | with_reducible refine Below.drew ?_ | with_reducible refine below_drewN ?_ _ | with_reducible refine bal ?_ _ | with_reducible refine bset ?_ (by first | (simp; done) | (simp; omega)) _ | with_reducible refine bnext ?_ (by assumption) | with_reducible assumption))
    · have HG := Lib.hid hG
      clear hG
      go_wp2_with fail
      refine (Offer_to HG.out HW.out (by omega) (by omega) _ _ HS.out).mono ?_
      rintro e w2 ⟨A2, q9, rfl, _, hb2⟩
      dsimp only [zLed]
      have hB2 : Below w.heap.size w w2 := bnext hB0 hb2
      have k0 := K0.out.below hb2
      have kr := KR.out.below hb2
      clear c0 c1 c2 c3 d0 d1 d2 d3 f0 f1 f2 f3 hlt0 hlt1
      obtain ⟨d0, d1, d2, d3⟩ := kr.c4
      obtain ⟨f0, f1, f2, f3⟩ := kr.f4
      have hlt1 := kr.lt
      have KR2 := Lib.hid kr
      clear k0 kr
      go_wp2_with fail
      refine bodyPost_ret (v := .tuple #[.agg #[.int .u64 0, .int .u64 0, .int .u64 0, .slice A2 0 q9], .int .i64 14]) (by simp [results, Try.results33, go_sem, d0, d1, d2, d3, hlt1]) rfl (.inr ⟨_, _, rfl, ?_⟩)
      exact (by repeat (first | with_reducible exact Below.refl _ _ | with_reducible refine Below.drew ?_ | with_reducible refine below_drewN ?_ _ | with_reducible refine bal ?_ _ | with_reducible refine bset ?_ (by first | (simp; done) | (simp; omega)) _ | with_reducible refine bnext ?_ (by assumption) | with_reducible assumption))
  · rcases offer_step HI.out hi40 hz1 hz2 with ⟨⟨ag, an, ar, al⟩, ak, hG, hST⟩ | hG
    · have HG := Lib.hid hG
      have HST := Lib.hid hST
      clear hG hST
      go_wp2_with fail
      refine (Offer_to HG.out HW.out (by omega) (by omega) _ _ HS.out).mono ?_
      rintro e w2 ⟨A2, q9, rfl, hown, hb2⟩
      have hB2 : Below w.heap.size w w2 := bnext hB0 hb2
      have k0 := K0.out.below hb2
      have kr := KR.out.below hb2
      clear c0 c1 c2 c3 d0 d1 d2 d3 f0 f1 f2 f3 hlt0 hlt1
      obtain ⟨d0, d1, d2, d3⟩ := kr.c4
      obtain ⟨f0, f1, f2, f3⟩ := kr.f4
      have hlt1 := kr.lt
      have KR2 := Lib.hid kr
      clear k0 kr
      have HO := Lib.hid hown
      clear hown
      go_wp2_with fail
      refine bodyPost_ret (v := .tuple #[.agg #[.int .u64 ag, .int .u64 an, .int .u64 ar, .slice A2 al.length q9], .int .i64 0]) (by simp [results, Try.results33, go_sem, d0, d1, d2, d3, hlt1]) rfl (.inl ⟨⟨ag, an, ar, al⟩, A2, q9, rfl, ?_, ?_, HST.out⟩)
      · unfold OwnL
        refine own_mono (base := w.heap.size + 2) ?_ (by omega)
        have q := own_mono (base' := w.heap.size + 2) HO.out (by first | omega | (simp; omega))
        repeat (first | with_reducible exact q | with_reducible refine World.ownsRow.drew ?_ | with_reducible refine World.ownsRow.alloc ?_ _ | with_reducible refine ownsRow_setCell_below ?_ (by simp; done) _)
      · exact (by repeat (first | with_reducible exact Below.refl _ _ | with_reducible refine Below.drew ?_ | with_reducible refine below_drewN ?_ _ | with_reducible refine bal ?_ _ | with_reducible refine bset ?_ (by first | (simp; done) | (simp; omega)) _ | with_reducible refine bnext ?_ (by assumption) | with_reducible assumption))
    · have HG := Lib.hid hG
      clear hG
      go_wp2_with fail
      refine (Offer_to HG.out HW.out (by omega) (by omega) _ _ HS.out).mono ?_
      rintro e w2 ⟨A2, q9, rfl, _, hb2⟩
      dsimp only [zLed]
      have hB2 : Below w.heap.size w w2 := bnext hB0 hb2
      have k0 := K0.out.below hb2
      have kr := KR.out.below hb2
      clear c0 c1 c2 c3 d0 d1 d2 d3 f0 f1 f2 f3 hlt0 hlt1
      obtain ⟨d0, d1, d2, d3⟩ := kr.c4
      obtain ⟨f0, f1, f2, f3⟩ := kr.f4
      have hlt1 := kr.lt
      have KR2 := Lib.hid kr
      clear k0 kr
      go_wp2_with fail
      refine bodyPost_ret (v := .tuple #[.agg #[.int .u64 0, .int .u64 0, .int .u64 0, .slice A2 0 q9], .int .i64 14]) (by simp [results, Try.results33, go_sem, d0, d1, d2, d3, hlt1]) rfl (.inr ⟨_, _, rfl, ?_⟩)
      exact (by repeat (first | with_reducible exact Below.refl _ _ | with_reducible refine Below.drew ?_ | with_reducible refine below_drewN ?_ _ | with_reducible refine bal ?_ _ | with_reducible refine bset ?_ (by first | (simp; done) | (simp; omega)) _ | with_reducible refine bnext ?_ (by assumption) | with_reducible assumption))
  · by_cases hl0 : l = []
    · subst hl0
      rw [show ([] : List Sl).length = 0 from rfl] at c3
      obtain ⟨⟨ag, an, ar, al⟩, ak, hG, hST⟩ := grant_step HI.out hi40 hz1 hz2
      have HG := Lib.hid hG
      have HST := Lib.hid hST
      clear hG hST
      go_wp2_with fail
      refine (Grant_to HG.out HW.out _ _ HS.out).mono ?_
      rintro e w2 ⟨A2, q9, rfl, hown, hb2⟩
      have hB2 : Below w.heap.size w w2 := bnext hB0 hb2
      have k0 := K0.out.below hb2
      have kr := KR.out.below hb2
      clear c0 c1 c2 c3 d0 d1 d2 d3 f0 f1 f2 f3 hlt0 hlt1
      obtain ⟨d0, d1, d2, d3⟩ := kr.c4
      obtain ⟨f0, f1, f2, f3⟩ := kr.f4
      have hlt1 := kr.lt
      have KR2 := Lib.hid kr
      clear k0 kr
      have HO := Lib.hid hown
      clear hown
      go_wp2_with fail
      refine bodyPost_ret (v := .tuple #[.agg #[.int .u64 ag, .int .u64 an, .int .u64 ar, .slice A2 al.length q9], .int .i64 0]) (by simp [results, Try.results33, go_sem, d0, d1, d2, d3, hlt1]) rfl (.inl ⟨⟨ag, an, ar, al⟩, A2, q9, rfl, ?_, ?_, HST.out⟩)
      · unfold OwnL
        refine own_mono (base := w.heap.size + 2) ?_ (by omega)
        have q := own_mono (base' := w.heap.size + 2) HO.out (by first | omega | (simp; omega))
        repeat (first | with_reducible exact q | with_reducible refine World.ownsRow.drew ?_ | with_reducible refine World.ownsRow.alloc ?_ _ | with_reducible refine ownsRow_setCell_below ?_ (by simp; done) _)
      · exact (by repeat (first | with_reducible exact Below.refl _ _ | with_reducible refine Below.drew ?_ | with_reducible refine below_drewN ?_ _ | with_reducible refine bal ?_ _ | with_reducible refine bset ?_ (by first | (simp; done) | (simp; omega)) _ | with_reducible refine bnext ?_ (by assumption) | with_reducible assumption))
    · have hl1 : ¬ l.length = 0 := fun h => hl0 (List.eq_nil_of_length_eq_zero h)
      have t0 : ((l.length : Int) == 0) = false := by rw [beq_eq_false_iff_ne]; omega
      obtain ⟨q2, hq2⟩ : ∃ q2, m.tdiv 200 = q2 := ⟨_, rfl⟩
      have hq20 : 0 ≤ q2 ∧ q2 ≤ 10000 := by rw [← hq2, Int.tdiv_eq_ediv_of_nonneg hm0]; omega
      obtain ⟨j, hj⟩ : ∃ j : Nat, q2.tmod (l.length : Int) = j := ⟨(q2.tmod (l.length : Int)).toNat, by
        have : 0 ≤ q2.tmod (l.length : Int) := by rw [Int.tmod_eq_emod_of_nonneg hq20.1]; exact Int.emod_nonneg _ (by omega)
        omega⟩
      have hjl : (j : Int) < l.length := by rw [← hj, Int.tmod_eq_emod_of_nonneg hq20.1]; exact Int.emod_lt_of_pos _ (by omega)
      have hj0 : (0 : Int) ≤ (j : Int) := by omega
      have hln : ¬ (l.length : Int) = 0 := by omega
      have hln1 : ¬ (l.length : Int) = -1 := by omega
      obtain ⟨y, hy⟩ : ∃ y, l[j]? = some y := ⟨_, List.getElem?_eq_getElem (by omega)⟩
      obtain ⟨⟨ag, an, ar, al⟩, hG, hST⟩ := settle_step HI.out hy
      have HG := Lib.hid hG
      have HST := Lib.hid hST
      obtain ⟨_, _, e1, _, _, hR1⟩ := HS.out
      cases e1
      obtain ⟨b, o, rfl, hbl, y0, y1, y2, y3, y4⟩ := slot_cells hR1 rfl hy
      have hj100 : (j : Int) ≤ 100 := by omega
      have WJ : IntKind.i64.wrap (j : Int) = (j : Int) := IntWalk.i64_in _ (by omega)
      have WQ : IntKind.i64.wrap q2 = q2 := IntWalk.i64_in _ (by omega)
      clear hG hST hR1 hy
      go_upto_region 12 with fail
      clear c0 c1 c2 d0 d1 d2 d3 f0 f1 f2 f3
      go_region_held3 (fun w' => w'.cell? ⟨w.heap.size, 3, none⟩ = some (.slice (some ⟨b, o, none⟩) l.length c) ∧ w'.cell? ⟨b, o + j * 5, none⟩ = some (.int .u64 y.off) ∧ w'.cell? ⟨b, o + j * 5 + 1, none⟩ = some (.int .u64 y.size) ∧ w'.cell? ⟨b, o + j * 5 + 2, none⟩ = some (.int .i64 y.node) ∧ w'.cell? ⟨b, o + j * 5 + 3, none⟩ = some (.int .u64 y.seq) ∧ w'.cell? ⟨b, o + j * 5 + 4, none⟩ = some (.int .i64 y.io)) (go_keep) ((fail))
      all_goals
        have k0 := K0.out
        obtain ⟨c0, c1, c2, c3⟩ := k0.c4
        clear k0
        go_wp2_with fail
        refine (Settle_to HG.out HW.out _ _ (HS.out.alloc _).drew).mono ?_
        rintro e w2 ⟨A2, q9, rfl, hown, hb2⟩
        have hB2 : Below w.heap.size w w2 := bnext (bdr (bal hB0 _)) hb2
        have kr := ((KR.out.alloc _).drew).below hb2
        clear c0 c1 c2 c3 hlt0 hlt1
        obtain ⟨d0, d1, d2, d3⟩ := kr.c4
        obtain ⟨f0, f1, f2, f3⟩ := kr.f4
        have hlt1 := kr.lt
        clear kr
        have HO := Lib.hid hown
        clear hown
        go_wp2_with fail
        refine bodyPost_ret (v := .tuple #[.agg #[.int .u64 ag, .int .u64 an, .int .u64 ar, .slice A2 al.length q9], .int .i64 0]) (by simp [results, Try.results33, go_sem, d0, d1, d2, d3, hlt1]) rfl (.inl ⟨⟨ag, an, ar, al⟩, A2, q9, rfl, ?_, ?_, HST.out⟩)
        · unfold OwnL
          refine own_mono (base := w.heap.size + 2) ?_ (by omega)
          have q := own_mono (base' := w.heap.size + 2) HO.out (by first | omega | (simp; omega))
          repeat (first | with_reducible exact q | with_reducible refine World.ownsRow.drew ?_ | with_reducible refine World.ownsRow.alloc ?_ _ | with_reducible refine ownsRow_setCell_below ?_ (by simp; done) _)
        · exact (by repeat (first | with_reducible exact Below.refl _ _ | with_reducible refine Below.drew ?_ | with_reducible refine below_drewN ?_ _ | with_reducible refine bal ?_ _ | with_reducible refine bset ?_ (by first | (simp; done) | (simp; omega)) _ | with_reducible refine bnext ?_ (by assumption) | with_reducible assumption))
  · obtain ⟨⟨ag, an, ar, al⟩, ak, hG, hST⟩ := give_step HI.out hi40 hz1 hz2
    have HG := Lib.hid hG
    have HST := Lib.hid hST
    clear hG hST
    go_wp2_with fail
    refine (Give_to HG.out HW.out (by omega) _ _ HS.out).mono ?_
    rintro e w2 ⟨A2, q9, rfl, hown, hb2⟩
    have hB2 : Below w.heap.size w w2 := bnext hB0 hb2
    have k0 := K0.out.below hb2
    have kr := KR.out.below hb2
    clear c0 c1 c2 c3 d0 d1 d2 d3 f0 f1 f2 f3 hlt0 hlt1
    obtain ⟨d0, d1, d2, d3⟩ := kr.c4
    obtain ⟨f0, f1, f2, f3⟩ := kr.f4
    have hlt1 := kr.lt
    have KR2 := Lib.hid kr
    clear k0 kr
    have HO := Lib.hid hown
    clear hown
    go_wp2_with fail
    refine bodyPost_ret (v := .tuple #[.agg #[.int .u64 ag, .int .u64 an, .int .u64 ar, .slice A2 al.length q9], .int .i64 0]) (by simp [results, Try.results33, go_sem, d0, d1, d2, d3, hlt1]) rfl (.inl ⟨⟨ag, an, ar, al⟩, A2, q9, rfl, ?_, ?_, HST.out⟩)
    · unfold OwnL
      refine own_mono (base := w.heap.size + 2) ?_ (by omega)
      have q := own_mono (base' := w.heap.size + 2) HO.out (by first | omega | (simp; omega))
      repeat (first | with_reducible exact q | with_reducible refine World.ownsRow.drew ?_ | with_reducible refine World.ownsRow.alloc ?_ _ | with_reducible refine ownsRow_setCell_below ?_ (by simp; done) _)
    · exact (by repeat (first | with_reducible exact Below.refl _ _ | with_reducible refine Below.drew ?_ | with_reducible refine below_drewN ?_ _ | with_reducible refine bal ?_ _ | with_reducible refine bset ?_ (by first | (simp; done) | (simp; omega)) _ | with_reducible refine bnext ?_ (by assumption) | with_reducible assumption))
/-- the same, all in one form -/
def StepRes (i : Nat) (s : Led) (w : World) (e : Ending) (w' : World) : Prop :=
  ∃ (a b c : Int) (A : Option Addr) (m q : Nat) (er : Int), e = .returned (.tuple #[.agg #[.int .u64 a, .int .u64 b, .int .u64 c, .slice A m q], .int .i64 er]) ∧ Below w.heap.size w w' ∧
    ((er = 0 ∧ ∃ l, m = l.length ∧ OwnL w w' (.slice A l.length q) l ∧ Step i s ⟨a, b, c, l⟩) ∨ er = 14)
theorem step_res (i : Nat) (hi40 : i ≤ 40) (s : Led) (hI : InvT i s) (x : Int) (v : Value) (w : World) (hS : SlAt w 5 v s.sl.length (flat s.sl)) :
    Calls Try.prog 33 #[.agg #[.int .u64 s.g, .int .u64 s.n, .int .u64 s.r, v], .int .i64 x, .int .i64 i] w (StepRes i s w) :=
  (step_any i hi40 s hI x v w hS).mono fun e w' h => by
    rcases h with ⟨⟨a, b, c, l⟩, A, q, rfl, ho, hb, hs⟩ | ⟨A, q, rfl, hb⟩
    · exact ⟨a, b, c, A, _, q, 0, rfl, hb, .inl ⟨rfl, l, rfl, ho, hs⟩⟩
    · exact ⟨0, 0, 0, A, 0, q, 14, rfl, hb, .inr rfl⟩
end Go.Proofs.Ytdfppaafoecgmaa
