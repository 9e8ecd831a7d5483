/- Contract: filling up. -/
import Derived.Test.YtlpdebbedoibiaaD2
import Derived.Deep.RegionHeld3
import Derived.Deep.DeepCutAuto
import Derived.Laws.EntriesVeiled
namespace Go.Proofs.Ytlpdebbedoibiaa
open Go.RowKit
set_option linter.unusedVariables false
set_option linter.unusedSimpArgs false

/-- what a claim gets -/
def mkUp (v : Int) (c : Cl) : Sh := ⟨c.node, mx c.res v - c.res⟩
def shB (W v : Int) : List Cl → Int → List Sh
  | [], _ => []
  | c :: r, odd => if c.res ≤ v ∧ v < W ∧ 0 < odd then ⟨c.node, mx c.res v - c.res + 1⟩ :: shB W v r (odd - 1) else mkUp v c :: shB W v r odd
theorem shB_filter (W v : Int) (l : List Cl) (odd : Int) : (shB W v l odd).filter Sh.pos = shUp l (bump W v (lev l) odd) := by
  induction l generalizing odd with
  | nil => rfl
  | cons c l ih =>
    by_cases h : c.res ≤ v ∧ v < W ∧ 0 < odd
    · have e1 : shB W v (c :: l) odd = ⟨c.node, mx c.res v - c.res + 1⟩ :: shB W v l (odd - 1) := if_pos h
      have e2 : bump W v (lev (c :: l)) odd = (v + 1) :: bump W v (lev l) (odd - 1) := if_pos h
      have hm : mx c.res v = v := by unfold mx; split <;> omega
      rw [e1, e2, List.filter_cons, if_pos (by show decide (0 < mx c.res v - c.res + 1) = true; rw [hm]; simp; omega), ih]
      show _ = if c.res < v + 1 then _ else _
      rw [if_pos (by omega), hm, show v - c.res + 1 = v + 1 - c.res by omega]
    · have e1 : shB W v (c :: l) odd = mkUp v c :: shB W v l odd := if_neg h
      have e2 : bump W v (lev (c :: l)) odd = mx c.res v :: bump W v (lev l) odd := if_neg h
      rw [e1, e2, List.filter_cons, ih]
      show _ = if c.res < mx c.res v then _ else _
      by_cases hp : c.res < mx c.res v
      · rw [if_pos (by show decide (0 < mx c.res v - c.res) = true; simp; omega), if_pos hp]; rfl
      · rw [if_neg (by show ¬ decide (0 < mx c.res v - c.res) = true; simp; omega), if_neg hp]
theorem shB_stop (W v : Int) (l : List Cl) (odd : Int) (h : ¬ (v < W ∧ 0 < odd)) : shB W v l odd = l.map (mkUp v) := by
  induction l with
  | nil => rfl
  | cons c l ih =>
    have e1 : shB W v (c :: l) odd = mkUp v c :: shB W v l odd := if_neg (fun q => h q.2)
    rw [e1, ih]; rfl

/-- the shares behind k rounds of the first loop -/
def upTo (v : Int) (l : List Cl) (k : Nat) : List Sh := (l.take k).map (mkUp v) ++ List.replicate (l.length - k) ⟨0, 0⟩
theorem upTo_len (v : Int) (l : List Cl) (k : Nat) (hk : k ≤ l.length) : (upTo v l k).length = l.length := by
  unfold upTo; rw [List.length_append, List.length_map, List.length_take, List.length_replicate]; omega
theorem upTo_at (v : Int) (l : List Cl) (k : Nat) (hk : k < l.length) : (upTo v l k)[k]? = some ⟨0, 0⟩ := by
  unfold upTo
  rw [List.getElem?_append_right (by rw [List.length_map, List.length_take]; omega), List.length_map, List.length_take, Nat.min_eq_left (by omega), Nat.sub_self, List.getElem?_replicate, if_pos (by omega)]
theorem upTo_next (v : Int) (l : List Cl) (k : Nat) {x : Cl} (hx : l[k]? = some x) : (upTo v l k).set k (mkUp v x) = upTo v l (k + 1) := by
  obtain ⟨hk, rfl⟩ := List.getElem?_eq_some_iff.1 hx
  unfold upTo
  have hl : ((l.take k).map (mkUp v)).length = k := by rw [List.length_map, List.length_take]; omega
  rw [List.set_append_right _ _ (by omega), hl, Nat.sub_self, show l.length - k = (l.length - (k + 1)) + 1 by omega, List.replicate_succ, List.set_cons_zero, List.take_succ_eq_append_getElem hk, List.map_append, List.append_assoc]
  rfl
theorem upTo_end (v : Int) (l : List Cl) : upTo v l l.length = l.map (mkUp v) := by
  unfold upTo; rw [List.take_of_length_le (Nat.le_refl _), Nat.sub_self]; simp
/-- the second loop's state: those behind, those ahead, what is left -/
def Odds (W v odd0 : Int) (l : List Cl) (k : Nat) (S : List Sh) (odd : Int) : Prop := ∃ P : List Sh, P.length = k ∧ S = P ++ (l.drop k).map (mkUp v) ∧ P ++ shB W v (l.drop k) odd = shB W v l odd0 ∧ 0 ≤ odd ∧ odd ≤ odd0
theorem Odds.start {W v odd0 : Int} {l : List Cl} (h : 0 ≤ odd0) : Odds W v odd0 l 0 (l.map (mkUp v)) odd0 := ⟨[], rfl, rfl, rfl, h, Int.le_refl _⟩
theorem Odds.len {W v odd0 odd : Int} {l : List Cl} {k : Nat} {S : List Sh} (h : Odds W v odd0 l k S odd) (hk : k ≤ l.length) : S.length = l.length := by
  obtain ⟨P, hP, rfl, _⟩ := h
  rw [List.length_append, List.length_map, List.length_drop]; omega
theorem Odds.at {W v odd0 odd : Int} {l : List Cl} {k : Nat} {S : List Sh} (h : Odds W v odd0 l k S odd) {x : Cl} (hx : l[k]? = some x) : S[k]? = some (mkUp v x) := by
  obtain ⟨P, hP, rfl, _⟩ := h
  rw [List.getElem?_append_right (by omega), hP, Nat.sub_self, List.getElem?_map, List.getElem?_drop, Nat.add_zero, hx]; rfl
theorem Odds.skip {W v odd0 odd : Int} {l : List Cl} {k : Nat} {S : List Sh} (h : Odds W v odd0 l k S odd) {x : Cl} (hx : l[k]? = some x) (hn : ¬ x.res ≤ v) : Odds W v odd0 l (k + 1) S odd := by
  obtain ⟨P, hP, rfl, h1, h2⟩ := h
  obtain ⟨hk, rfl⟩ := List.getElem?_eq_some_iff.1 hx
  rw [List.drop_eq_getElem_cons hk] at h1 ⊢
  refine ⟨P ++ [mkUp v l[k]], by simp [hP], by rw [List.map_cons, List.append_assoc]; rfl, ?_, h2⟩
  rw [← h1, List.append_assoc]
  congr 1
  exact (if_neg (fun q => hn q.1)).symm
theorem Odds.take {W v odd0 odd : Int} {l : List Cl} {k : Nat} {S : List Sh} (h : Odds W v odd0 l k S odd) {x : Cl} (hx : l[k]? = some x) (hn : x.res ≤ v) (hv : v < W) (ho : 0 < odd) : Odds W v odd0 l (k + 1) (S.set k ⟨x.node, mx x.res v - x.res + 1⟩) (odd - 1) := by
  obtain ⟨P, hP, rfl, h1, h2⟩ := h
  obtain ⟨hk, rfl⟩ := List.getElem?_eq_some_iff.1 hx
  rw [List.drop_eq_getElem_cons hk] at h1 ⊢
  refine ⟨P ++ [⟨l[k].node, mx l[k].res v - l[k].res + 1⟩], by simp [hP], ?_, ?_, by omega, by omega⟩
  · rw [List.set_append_right _ _ (by omega), hP, Nat.sub_self, List.map_cons, List.set_cons_zero, List.append_assoc]; rfl
  · rw [← h1, List.append_assoc]
    congr 1
    exact (if_pos ⟨hn, hv, ho⟩).symm
theorem Odds.fin {W v odd0 odd : Int} {l : List Cl} {k : Nat} {S : List Sh} (h : Odds W v odd0 l k S odd) (hs : k = l.length ∨ ¬ (v < W ∧ 0 < odd)) : S = shB W v l odd0 := by
  obtain ⟨P, hP, rfl, h1, h2⟩ := h
  rw [← h1]
  rcases hs with rfl | hs
  · rw [List.drop_of_length_le (Nat.le_refl _)]; rfl
  · rw [shB_stop _ _ _ _ hs]

def FillPost (l : List Cl) (W A : Int) (w : World) (e : Ending) (w' : World) : Prop := ∃ v0, IsUp (lev l) W A v0 ∧ RetSh (shUp l (bump W v0 (lev l) (A - needs (lev l) v0))) w e w'
theorem isUp_of {l : List Cl} {W A i : Int} (hL : LevOk (lev l)) (hA : 0 ≤ A) (h : 0 ≤ i ∧ i ≤ W ∧ (0 < i → decide (A < needs (lev l) (i - 1 + 1)) = false) ∧ (i < W → decide (A < needs (lev l) (i + 1)) = true)) : IsUp (lev l) W A i := by
  obtain ⟨h0, h1, h2, h3⟩ := h
  refine ⟨h0, h1, ?_, ?_⟩
  · by_cases hi : 0 < i
    · have := h2 hi
      rw [show i - 1 + 1 = i by omega] at this
      simp at this
      omega
    · have : i = 0 := by omega
      subst this
      rw [needs_zero _ (fun x hx => (hL x hx).1)]
      exact hA
  · by_cases hi : i < W
    · right; have := h3 hi; simpa using this
    · left; omega

set_option maxRecDepth 100000 in
set_option maxHeartbeats 8000000 in
theorem fill_any (l : List Cl) (hl : l.length ≤ 16) (hL : LevOk (lev l)) (W A : Int) (hW0 : 0 ≤ W) (hW1 : W ≤ 1125899906842624) (hA0 : 0 ≤ A) (hA1 : A ≤ 1125899906842624) (v : Value) (w : World) (hS : ClAt w v l) :
    Calls Try.prog 34 #[v, .int .u64 W, .int .u64 A] w (FillPost l W A w) := by
  obtain ⟨Ad, c, rfl, hc1, hc2, hR⟩ := id hS
  unfold maxLen at hc2
  obtain ⟨W0, hW⟩ : ∃ W0, ((w.alloc (.cells #[.slice Ad l.length c] 24)).alloc (.cells #[.int .u64 A] 23)).alloc (.cells #[.func (.func 43) #[] #[.pointer (some ⟨w.heap.size, 0, none⟩)]] 65) = W0 := ⟨_, rfl⟩
  have hB0 : Below w.heap.size w W0 := by rw [← hW]; exact bal (bal (bal (Below.refl _ _) _) _) _
  have k0 : Blk W0 w.heap.size 24 #[.slice Ad l.length c] := by rw [← hW]; exact ((Blk.new _ _ _).alloc _).alloc _
  have k1 : Blk W0 (w.heap.size + 1) 23 #[.int .u64 A] := by rw [← hW]; exact (Blk.new1 _ _ _ _).alloc _
  have k2 : Blk W0 (w.heap.size + 1 + 1) 65 #[.func (.func 43) #[] #[.pointer (some ⟨w.heap.size, 0, none⟩)]] := by rw [← hW]; exact Blk.new2 _ _ _ _ _
  have HS0 : Hid (ClAt W0 (.slice Ad l.length c) l) := hidI (by unfold ClAt at hS ⊢; exact hS.below hB0)
  have HS := Lib.hid hS
  have HW := Lib.hid hW
  have K0 := Lib.hid k0
  have K1 := Lib.hid k1
  have K2 := Lib.hid k2
  have HSr := Lib.hid (Search_up W hW0 hW1 (.pointer (some ⟨w.heap.size + 1 + 1, 0, none⟩)) (.pointer (some ⟨w.heap.size + 1, 0, none⟩)) (fun m => decide (A < needs (lev l) (m + 1))) W0
    (fun m w' hm0 hm1 hb => over_any l hl hL m A hm0 (by omega) w.heap.size (w.heap.size + 1 + 1) (w.heap.size + 1) _ w' ((k0.below hb).cell 0) (k0.below hb).lt (by unfold ClAt; exact SlAt.below HS0.out hb) ((k2.below hb).cell 0) (k2.below hb).lt ((k1.below hb).cell 0) (k1.below hb).lt))
  have HL := Lib.hid hL
  clear hS hR k0 k1 k2 hW hL
  go_enter Try.func34, Try.ntmps34
  go_wp2_with fail
  rw [HW.out]
  refine HSr.out.mono ?_
  rintro e w1 ⟨i, hi, rfl, hb1⟩
  have U := hidI (isUp_of HL.out hA0 hi)
  obtain ⟨hi0, hi1, _, _⟩ := hi
  have k0 := K0.out.below hb1
  have k1 := K1.out.below hb1
  have k2 := K2.out.below hb1
  have HS1 : Hid (ClAt w1 (.slice Ad l.length c) l) := hidI (by unfold ClAt; exact SlAt.below HS0.out hb1)
  have hB1 : Below w.heap.size w w1 := bnext hB0 hb1
  have a0 := k0.cell 0
  have a1 := k1.cell 0
  have a2 := k2.cell 0
  have b0 := k0.lt
  have b1 := k1.lt
  have b2 := k2.lt
  have hn0 := needs_nonneg (lev l) i
  have hnA : needs (lev l) i ≤ A := U.out.2.2.1
  have HN := hidI (fun w' hB => needs_any l hl HL.out i (by omega) (by omega) w.heap.size (.slice Ad l.length c) w' ((k0.below hB).cell 0) (k0.below hB).lt (by unfold ClAt; exact SlAt.below HS1.out hB))
  have K0' := Lib.hid k0
  have HR1 : Hid (∃ c', Reads w1 4 Ad l.length (fl Cl.cells l) ∧ c' = c) := hidI (by obtain ⟨A', c', e, _, _, h⟩ := HS1.out; cases e; exact ⟨c, h, rfl⟩)
  obtain ⟨od, hod⟩ : ∃ od, A - needs (lev l) i = od := ⟨_, rfl⟩
  have hod0 : 0 ≤ od := by omega
  have hod1 : od ≤ 1125899906842624 := by omega
  have HOD := Lib.hid hod
  clear HSr HS0 K0 K1 K2 hb1 k0 k1 k2 HW hod
  go_upto_region 3 with fail
  go_cut [9] (fun s9 wx => s9 = .int .u64 od ∧ Below w1.heap.size w1 wx)
  case first =>
    have WR : IntKind.u64.wrap (A - needs (lev l) i) = A - needs (lev l) i := IntWalk.u64_in _ (by omega)
    go_region_held3 (fun w' => w'.cell? ⟨w.heap.size + 1, 0, none⟩ = some (.int .u64 A) ∧ w'.cell? ⟨w.heap.size + 1 + 1, 0, none⟩ = some (.func (.func 43) #[] #[.pointer (some ⟨w.heap.size, 0, none⟩)])) (first | go_keep | exact ⟨(hcf _ _ b1).trans a1, (hcf _ _ b2).trans a2⟩)
      (first | (go_at_call 43; refine (HN.out _ ?_).mono ?_; exact (by repeat (first | with_reducible exact Below.refl _ _ | with_reducible refine Below.drew ?_ | with_reducible refine below_drewN ?_ _ | with_reducible refine bal ?_ _ | with_reducible refine bset ?_ (by first | (simp; done) | (simp; omega)) _ | with_reducible refine bnext ?_ (by assumption) | with_reducible assumption)); rintro e w2 ⟨rfl, hb3⟩; have hcf := (bcell hb3).1))
    all_goals
      have hB : Below w1.heap.size w1 w2 := (by repeat (first | with_reducible exact Below.refl _ _ | with_reducible refine Below.drew ?_ | with_reducible refine below_drewN ?_ _ | with_reducible refine bal ?_ _ | with_reducible refine bset ?_ (by first | (simp; done) | (simp; omega)) _ | with_reducible refine bnext ?_ (by assumption) | with_reducible assumption))
      clear hcf
      go_wp2_with fail
      go_meet
      exact ⟨by rw [HOD.out], hB⟩
  case rest =>
    obtain ⟨rfl, hB⟩ := hcut
    have k0 := K0'.out.below hB
    have hR := HR1.out.choose_spec.1.keep hB.size fun b o h => hB.cell (p := ⟨b, o, none⟩) h
    have hBc : Below w.heap.size w wc := bnext hB1 hB
    have hz := hBc.size
    obtain ⟨i0, hi', hz0', hz1', hz2'⟩ := info_parts infoSh
    have b0c := k0.lt
    have d0 := k0.cell 0
    have K0 := Lib.hid k0
    have HR := Lib.hid hR
    clear a0 a1 a2 b0 b1 b2 hn0 hnA HN K0' HR1 HS1 hR k0 hB hB1
    go_wp2_with (first
      | (at_make; refine wpList_make_full wc rfl _ _ 28 rfl w.heap.size 58 i0 (.agg #[.int .i64 0, .int .u64 0]) 2 Try.underlying28 hi' hz0' hz1' .i64 .i64 _ _ l.length (by rfl) (by rfl) rfl rfl (by rw [hz2']; omega) (by unfold maxLen; omega) hz ?_; intro w2 hown hgrow; have hO : Hid (w2.ownsRow w.heap.size 58 2 (.slice (some ⟨wc.heap.size, 0, none⟩) l.length l.length) l.length (fl Sh.cells (upTo i l 0))) := hidI (by have q := made_fl sh2 (by decide) (⟨0, 0⟩ : Sh) l.length; rw [show upTo i l 0 = List.replicate l.length ⟨0, 0⟩ from by simp [upTo], ← q]; exact hown); have k0 := K0.out.grown hgrow (by simp); have hG : wc.heap.size < w2.heap.size := (hown.lt wc.heap.size rfl).2; have hB2 : Below w.heap.size w w2 := hBc.grown hgrow hz (fun _ h => by cases h); have d0 := k0.cell 0; clear hown hgrow))
    obtain ⟨G, hGe⟩ : ∃ G, wc.heap.size = G := ⟨_, rfl⟩
    have hwG : w.heap.size < G := by omega
    have hR0 := Lib.hid hBc
    rw [hGe] at hO hG ⊢
    have K2 := Lib.hid k0
    have HW : Hid (∃ q : Reads w 4 Ad l.length (fl Cl.cells l), True) := hidI (by obtain ⟨A', c', e, _, _, h⟩ := HS.out; cases e; exact ⟨h, trivial⟩)
    clear k0 d0 HR K0 hGe hR0 hBc
    go_loopw [30] (fun a wr => ∃ k : Nat, k ≤ l.length ∧ a = .int .i64 k ∧ (Blk wr w.heap.size 24 #[.slice Ad l.length c] ∧ wr.ownsRow w.heap.size 58 2 (.slice (some ⟨G, 0, none⟩) l.length l.length) l.length (fl Sh.cells (upTo i l k)) ∧ G < wr.heap.size ∧ Below w.heap.size w wr)) (fun a _ => l.length - (intOf a).toNat)
    case atStart => exact ⟨0, by omega, rfl, K2.out, hO.out, hG, hB2⟩
    case round =>
      clear K2 hO hG hB2
      obtain ⟨k, hk, rfl, k0, hO, hG, hB⟩ := hrel
      have K0 := Lib.hid k0
      have d0 := k0.cell 0
      by_cases hlt : k < l.length
      · obtain ⟨x, hx⟩ : ∃ x, l[k]? = some x := ⟨_, List.getElem?_eq_getElem hlt⟩
        obtain ⟨q, _⟩ := HW.out
        obtain ⟨b, o, rfl, hb, x0, x1, x2, x3⟩ := reads_fl4 cl4 (q.keep hB.size fun b o h => hB.cell (p := ⟨b, o, none⟩) h) rfl hx (by rfl : x.cells = [_, _, _, _])
        have hi : (k : Int) < l.length := by omega
        have e0 := own_cell sh2 hO k 0 (upTo_at i l k hlt) (by decide)
        have e1 := own_cell sh2 hO k 1 (upTo_at i l k hlt) (by decide)
        have f0 := hO.frozenAt (k * 2)
        have f1 := hO.frozenAt (k * 2 + 1)
        rw [Nat.add_zero] at e0
        have e0' : wr.cell? ⟨G, k * 2, none⟩ = some (.int .i64 0) := e0
        have e1' : ∀ (u : Value) (o : Obj), ((wr.setCell ⟨G, k * 2, none⟩ u).alloc o).cell? ⟨G, k * 2 + 1, none⟩ = some (.int .u64 0) := fun u o => by
          rw [oldcell _ (by simpa using hG)]
          refine (World.cell?_setCell_other wr _ _ u ?_).trans e1
          intro h
          injection h with _ h _
          omega
        have f1' : ∀ (u : Value) (o : Obj), ((wr.setCell ⟨G, k * 2, none⟩ u).alloc o).frozen? ⟨G, k * 2 + 1, none⟩ = false := fun u o => by
          exact ((hO.stored (k * 2) u).1.alloc o).frozenAt (k * 2 + 1)
        clear e0 e1
        have hGs : ¬ G = wr.heap.size := by omega
        have P := Lib.hid (own_store sh2 (own_store sh2 hO k 0 (y := ⟨x.node, 0⟩) (u := .int .i64 x.node) (upTo_at i l k hlt) (by decide) rfl) k 1 (y := mkUp i x) (u := .int .u64 (mx x.res i - x.res)) (List.getElem?_set_self (by rw [upTo_len i l k hk]; exact hlt)) (by decide) rfl)
        rw [Nat.add_zero, List.set_set, upTo_next i l k hx] at P
        obtain ⟨hx0, hx1⟩ := HL.out x.res (List.mem_of_getElem? (lev_get hx))
        clear hx hO k0 q
        by_cases c1 : x.res < i
        · have HM : Hid (mx x.res i = i) := if_pos c1
          rw [HM.out] at P
          go_wp2_with fail
          go_roundw
          case rel => exact ⟨k + 1, by omega, by go_num, ((K0.out.far (by show w.heap.size ≠ G; omega) _).far (by show w.heap.size ≠ G; omega) _).alloc _, P.out.alloc _, by simp; omega, (by repeat (first | with_reducible exact Below.refl _ _ | with_reducible refine Below.drew ?_ | with_reducible refine below_drewN ?_ _ | with_reducible refine bal ?_ _ | with_reducible refine bset ?_ (by first | (simp; done) | (simp; omega)) _ | with_reducible refine bnext ?_ (by assumption) | with_reducible assumption))⟩
          case measure => simp [intOf]; omega
        · have HM : Hid (mx x.res i = x.res) := if_neg c1
          have c1' : i ≤ x.res := by omega
          rw [HM.out, Int.sub_self] at P
          go_wp2_with fail
          all_goals go_roundw
          case rel => exact ⟨k + 1, by omega, by go_num, ((K0.out.far (by show w.heap.size ≠ G; omega) _).far (by show w.heap.size ≠ G; omega) _).alloc _, P.out.alloc _, by simp; omega, (by repeat (first | with_reducible exact Below.refl _ _ | with_reducible refine Below.drew ?_ | with_reducible refine below_drewN ?_ _ | with_reducible refine bal ?_ _ | with_reducible refine bset ?_ (by first | (simp; done) | (simp; omega)) _ | with_reducible refine bnext ?_ (by assumption) | with_reducible assumption))⟩
          case measure => simp [intOf]; omega
      · obtain rfl : k = l.length := by omega
        rw [upTo_end] at hO
        have HO := Lib.hid hO
        clear hO k0
        go_wp2_with fail
        go_loopw [9, 51] (fun s a wr => ∃ (k : Nat) (S : List Sh) (odd : Int), k ≤ l.length ∧ a = .int .i64 k ∧ s = .int .u64 odd ∧ Odds W i od l k S odd ∧ (Blk wr w.heap.size 24 #[.slice Ad l.length c] ∧ wr.ownsRow w.heap.size 58 2 (.slice (some ⟨G, 0, none⟩) l.length l.length) l.length (fl Sh.cells S) ∧ G < wr.heap.size ∧ Below w.heap.size w wr)) (fun _ a _ => l.length - (intOf a).toNat)
        case atStart => exact ⟨0, _, od, by omega, rfl, rfl, Odds.start hod0, K0.out, HO.out, hG, hB⟩
        case round =>
          clear K0 HO hG hB d0 hk hlt
          obtain ⟨k, S, odd, hk, rfl, rfl, hQ, k0, hO, hG, hB⟩ := hrel
          have hd0 := hQ.choose_spec.2.2.2.1
          have hd1 := Int.le_trans hQ.choose_spec.2.2.2.2 hod1
          have K0 := Lib.hid k0
          have d0 := k0.cell 0
          have hz := hB.size
          by_cases hlt : k < l.length
          · obtain ⟨x, hx⟩ : ∃ x, l[k]? = some x := ⟨_, List.getElem?_eq_getElem hlt⟩
            obtain ⟨q, _⟩ := HW.out
            obtain ⟨b, o, rfl, hb, x0, x1, x2, x3⟩ := reads_fl4 cl4 (q.keep hB.size fun b o h => hB.cell (p := ⟨b, o, none⟩) h) rfl hx (by rfl : x.cells = [_, _, _, _])
            have hi : (k : Int) < l.length := by omega
            obtain ⟨hx0, hx1⟩ := HL.out x.res (List.mem_of_getElem? (lev_get hx))
            by_cases hstop : i < W ∧ 0 < odd
            · obtain ⟨hs1, hs2⟩ := hstop
              have t1 : (odd == 0) = false := by rw [beq_eq_false_iff_ne]; omega
              have t2 : (i == W) = false := by rw [beq_eq_false_iff_ne]; omega
              by_cases c1 : x.res ≤ i
              · have HM : Hid (mx x.res i = i) := hidI (by unfold mx; split <;> omega)
                have e1 : wr.cell? ⟨G, k * 2 + 1, none⟩ = some (.int .u64 (mx x.res i - x.res)) := own_cell sh2 hO k 1 (hQ.at hx) (by decide)
                have f1 := hO.frozenAt (k * 2 + 1)
                have P := Lib.hid (own_store sh2 hO k 1 (y := ⟨x.node, mx x.res i - x.res + 1⟩) (u := .int .u64 (mx x.res i - x.res + 1)) (hQ.at hx) (by decide) rfl)
                have HQ := Lib.hid (hQ.take hx c1 hs1 hs2)
                rw [HM.out] at e1 P HQ
                clear hx hO k0 q hQ
                go_wp2_with fail
                go_roundw
                case rel => exact ⟨k + 1, _, odd - 1, by omega, by go_num, rfl, HQ.out, K0.out.far (by show w.heap.size ≠ G; omega) _, P.out, by simpa using hG, (by repeat (first | with_reducible exact Below.refl _ _ | with_reducible refine Below.drew ?_ | with_reducible refine below_drewN ?_ _ | with_reducible refine bal ?_ _ | with_reducible refine bset ?_ (by first | (simp; done) | (simp; omega)) _ | with_reducible refine bnext ?_ (by assumption) | with_reducible assumption))⟩
                case measure => simp [intOf]; omega
              · have HQ := Lib.hid (hQ.skip hx c1)
                have HO := Lib.hid hO
                clear hx hO k0 q hQ
                go_wp2_with fail
                go_roundw
                case rel => exact ⟨k + 1, _, odd, by omega, by go_num, rfl, HQ.out, K0.out, HO.out, hG, hB⟩
                case measure => simp [intOf]; omega
            · have HF := Lib.hid (hQ.fin (.inr hstop))
              have HS2 : Hid (ShAt wr (.slice (some ⟨G, 0, none⟩) l.length l.length) S) := hidI (by unfold ShAt; rw [hQ.len hk]; exact SlAt.own hO)
              have HSl : Hid (S.length = l.length) := hQ.len hk
              have HG := given_any S _ wr HS2.out (by rw [HSl.out]; omega)
              rw [HF.out, shB_filter] at HG
              have HGV := Lib.hid HG
              have t3 : (odd == 0) = true ∨ ((odd == 0) = false ∧ (i == W) = true) := by
                by_cases h0 : odd = 0
                · exact .inl (by rw [beq_iff_eq]; exact h0)
                · right
                  refine ⟨by rw [beq_eq_false_iff_ne]; exact h0, ?_⟩
                  rw [beq_iff_eq]
                  by_cases h1 : i < W
                  · exact absurd ⟨h1, by omega⟩ hstop
                  · omega
              clear hx hO k0 q hQ HG hstop
              rcases t3 with t3 | ⟨t3, t4⟩
              all_goals
                go_wp2_with fail
                refine HGV.out.mono ?_
                rintro e w3 ⟨A', c', rfl, ho, hb3⟩
                go_wp2_with fail
                go_ret
                exact ⟨i, U.out, A', c', by rw [HOD.out]; rfl, by rw [HOD.out]; exact own_mono ho hB.size, bnext hB hb3⟩
          · obtain rfl : k = l.length := by omega
            have HF := Lib.hid (hQ.fin (.inl rfl))
            have HS2 : Hid (ShAt wr (.slice (some ⟨G, 0, none⟩) l.length l.length) S) := hidI (by unfold ShAt; rw [hQ.len hk]; exact SlAt.own hO)
            have HSl : Hid (S.length = l.length) := hQ.len hk
            have HG := given_any S _ wr HS2.out (by rw [HSl.out]; omega)
            rw [HF.out, shB_filter] at HG
            have HGV := Lib.hid HG
            clear hO k0 hQ HG
            go_wp2_with fail
            refine HGV.out.mono ?_
            rintro e w3 ⟨A', c', rfl, ho, hb3⟩
            go_wp2_with fail
            go_ret
            exact ⟨i, U.out, A', c', by rw [HOD.out]; rfl, by rw [HOD.out]; exact own_mono ho hB.size, bnext hB hb3⟩
end Go.Proofs.Ytlpdebbedoibiaa
