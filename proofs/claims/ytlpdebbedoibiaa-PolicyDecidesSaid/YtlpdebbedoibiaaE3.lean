/- Contract: letting down. -/
import Derived.Test.YtlpdebbedoibiaaE2
namespace Go.Proofs.Ytlpdebbedoibiaa
open Go.RowKit
set_option linter.unusedVariables false
set_option linter.unusedSimpArgs false

/-- what a claim gets -/
def mkDn (v : Int) (c : Cl) : Sh := ⟨c.node, c.res - mn c.res v⟩
def shD (v : Int) : List Cl → Int → List Sh
  | [], _ => []
  | c :: r, odd => if v ≤ c.res ∧ 0 < v ∧ 0 < odd then ⟨c.node, c.res - mn c.res v + 1⟩ :: shD v r (odd - 1) else mkDn v c :: shD v r odd
theorem shD_filter (v : Int) (l : List Cl) (odd : Int) : (shD v l odd).filter Sh.pos = shDown l (dip v (lev l) odd) := by
  induction l generalizing odd with
  | nil => rfl
  | cons c l ih =>
    by_cases h : v ≤ c.res ∧ 0 < v ∧ 0 < odd
    · have e1 : shD v (c :: l) odd = ⟨c.node, c.res - mn c.res v + 1⟩ :: shD v l (odd - 1) := if_pos h
      have e2 : dip v (lev (c :: l)) odd = (v - 1) :: dip v (lev l) (odd - 1) := if_pos h
      have hm : mn c.res v = v := by unfold mn; split <;> omega
      rw [e1, e2, List.filter_cons, if_pos (by show decide (0 < c.res - mn c.res v + 1) = true; rw [hm]; simp; omega), ih]
      show _ = if v - 1 < c.res then _ else _
      rw [if_pos (by omega), hm, show c.res - v + 1 = c.res - (v - 1) by omega]
    · have e1 : shD v (c :: l) odd = mkDn v c :: shD v l odd := if_neg h
      have e2 : dip v (lev (c :: l)) odd = mn c.res v :: dip v (lev l) odd := if_neg h
      rw [e1, e2, List.filter_cons, ih]
      show _ = if mn c.res v < c.res then _ else _
      by_cases hp : mn c.res v < c.res
      · rw [if_pos (by show decide (0 < c.res - mn c.res v) = true; simp; omega), if_pos hp]; rfl
      · rw [if_neg (by show ¬ decide (0 < c.res - mn c.res v) = true; simp; omega), if_neg hp]
theorem shD_stop (v : Int) (l : List Cl) (odd : Int) (h : ¬ (0 < v ∧ 0 < odd)) : shD v l odd = l.map (mkDn v) := by
  induction l with
  | nil => rfl
  | cons c l ih =>
    have e1 : shD v (c :: l) odd = mkDn v c :: shD v l odd := if_neg (fun q => h q.2)
    rw [e1, ih]; rfl
theorem shDown_app (a : List Cl) (c : Cl) (ys : List Int) (y : Int) (h : ys.length = a.length) : shDown (a ++ [c]) (ys ++ [y]) = shDown a ys ++ (if y < c.res then [⟨c.node, c.res - y⟩] else []) := by
  induction a generalizing ys with
  | nil =>
    cases ys with
    | nil => simp only [List.nil_append, shDown]
    | cons z ys => simp at h
  | cons b a ih =>
    cases ys with
    | nil => simp at h
    | cons z ys =>
      simp only [List.cons_append]
      unfold shDown
      rw [ih ys (by simpa using h)]
      split <;> simp
theorem shDown_rev (l : List Cl) (ys : List Int) (h : ys.length = l.length) : shDown l.reverse ys.reverse = (shDown l ys).reverse := by
  induction l generalizing ys with
  | nil =>
    cases ys with
    | nil => rfl
    | cons z ys => simp at h
  | cons c l ih =>
    cases ys with
    | nil => simp at h
    | cons z ys =>
      rw [List.reverse_cons, List.reverse_cons, shDown_app _ _ _ _ (by simpa using h), ih ys (by simpa using h)]
      show _ = (if z < c.res then ⟨c.node, c.res - z⟩ :: shDown l ys else shDown l ys).reverse
      split <;> simp
theorem lev_rev (l : List Cl) : lev l.reverse = (lev l).reverse := by unfold lev; rw [List.map_reverse]
theorem lower_fin (v : Int) (l : List Cl) (odd : Int) : ((shD v l.reverse odd).reverse).filter Sh.pos = shDown l (dip v (lev l).reverse odd).reverse := by
  have h := shDown_rev l.reverse (dip v (lev l).reverse odd) (by rw [dip_len]; simp [lev])
  rw [List.reverse_reverse] at h
  rw [List.filter_reverse, shD_filter, lev_rev, h]
theorem set_rev {α : Type} (S : List α) (m k : Nat) (y : α) (h : m + k + 1 = S.length) : (S.set m y).reverse = S.reverse.set k y := by
  apply List.ext_getElem?
  intro i
  by_cases hi : i < S.length
  · rw [List.getElem?_reverse (by simpa using hi), List.length_set, List.getElem?_set, List.getElem?_set, List.getElem?_reverse hi]
    by_cases h1 : k = i
    · rw [if_pos h1, if_pos (by omega), if_pos (by omega), if_pos (by simp; omega)]
    · rw [if_neg h1, if_neg (by omega)]
  · rw [List.getElem?_eq_none (by simp; omega), List.getElem?_eq_none (by simp; omega)]

/-- the shares behind k rounds of the first loop -/
def dnTo (v : Int) (l : List Cl) (k : Nat) : List Sh := (l.take k).map (mkDn v) ++ List.replicate (l.length - k) ⟨0, 0⟩
theorem dnTo_len (v : Int) (l : List Cl) (k : Nat) (hk : k ≤ l.length) : (dnTo v l k).length = l.length := by
  unfold dnTo; rw [List.length_append, List.length_map, List.length_take, List.length_replicate]; omega
theorem dnTo_at (v : Int) (l : List Cl) (k : Nat) (hk : k < l.length) : (dnTo v l k)[k]? = some ⟨0, 0⟩ := by
  unfold dnTo
  rw [List.getElem?_append_right (by rw [List.length_map, List.length_take]; omega), List.length_map, List.length_take, Nat.min_eq_left (by omega), Nat.sub_self, List.getElem?_replicate, if_pos (by omega)]
theorem dnTo_next (v : Int) (l : List Cl) (k : Nat) {x : Cl} (hx : l[k]? = some x) : (dnTo v l k).set k (mkDn v x) = dnTo v l (k + 1) := by
  obtain ⟨hk, rfl⟩ := List.getElem?_eq_some_iff.1 hx
  unfold dnTo
  have hl : ((l.take k).map (mkDn v)).length = k := by rw [List.length_map, List.length_take]; omega
  rw [List.set_append_right _ _ (by omega), hl, Nat.sub_self, show l.length - k = (l.length - (k + 1)) + 1 by omega, List.replicate_succ, List.set_cons_zero, List.take_succ_eq_append_getElem hk, List.map_append, List.append_assoc]
  rfl
theorem dnTo_end (v : Int) (l : List Cl) : dnTo v l l.length = l.map (mkDn v) := by
  unfold dnTo; rw [List.take_of_length_le (Nat.le_refl _), Nat.sub_self]; simp
/-- the second loop's state: those behind, those ahead, what is left -/
def OddsD (v odd0 : Int) (l : List Cl) (k : Nat) (S : List Sh) (odd : Int) : Prop := ∃ P : List Sh, P.length = k ∧ S = P ++ (l.drop k).map (mkDn v) ∧ P ++ shD v (l.drop k) odd = shD v l odd0 ∧ 0 ≤ odd ∧ odd ≤ odd0
theorem OddsD.start {v odd0 : Int} {l : List Cl} (h : 0 ≤ odd0) : OddsD v odd0 l 0 (l.map (mkDn v)) odd0 := ⟨[], rfl, rfl, rfl, h, Int.le_refl _⟩
theorem OddsD.len {v odd0 odd : Int} {l : List Cl} {k : Nat} {S : List Sh} (h : OddsD v odd0 l k S odd) (hk : k ≤ l.length) : S.length = l.length := by
  obtain ⟨P, hP, rfl, _⟩ := h
  rw [List.length_append, List.length_map, List.length_drop]; omega
theorem OddsD.at {v odd0 odd : Int} {l : List Cl} {k : Nat} {S : List Sh} (h : OddsD v odd0 l k S odd) {x : Cl} (hx : l[k]? = some x) : S[k]? = some (mkDn v x) := by
  obtain ⟨P, hP, rfl, _⟩ := h
  rw [List.getElem?_append_right (by omega), hP, Nat.sub_self, List.getElem?_map, List.getElem?_drop, Nat.add_zero, hx]; rfl
theorem OddsD.skip {v odd0 odd : Int} {l : List Cl} {k : Nat} {S : List Sh} (h : OddsD v odd0 l k S odd) {x : Cl} (hx : l[k]? = some x) (hn : ¬ v ≤ x.res) : OddsD v odd0 l (k + 1) S odd := by
  obtain ⟨P, hP, rfl, h1, h2⟩ := h
  obtain ⟨hk, rfl⟩ := List.getElem?_eq_some_iff.1 hx
  rw [List.drop_eq_getElem_cons hk] at h1 ⊢
  refine ⟨P ++ [mkDn v l[k]], by simp [hP], by rw [List.map_cons, List.append_assoc]; rfl, ?_, h2⟩
  rw [← h1, List.append_assoc]
  congr 1
  exact (if_neg (fun q => hn q.1)).symm
theorem OddsD.take {v odd0 odd : Int} {l : List Cl} {k : Nat} {S : List Sh} (h : OddsD v odd0 l k S odd) {x : Cl} (hx : l[k]? = some x) (hn : v ≤ x.res) (hv : 0 < v) (ho : 0 < odd) : OddsD v odd0 l (k + 1) (S.set k ⟨x.node, x.res - mn x.res v + 1⟩) (odd - 1) := by
  obtain ⟨P, hP, rfl, h1, h2⟩ := h
  obtain ⟨hk, rfl⟩ := List.getElem?_eq_some_iff.1 hx
  rw [List.drop_eq_getElem_cons hk] at h1 ⊢
  refine ⟨P ++ [⟨l[k].node, l[k].res - mn l[k].res v + 1⟩], by simp [hP], ?_, ?_, by omega, by omega⟩
  · rw [List.set_append_right _ _ (by omega), hP, Nat.sub_self, List.map_cons, List.set_cons_zero, List.append_assoc]; rfl
  · rw [← h1, List.append_assoc]
    congr 1
    exact (if_pos ⟨hn, hv, ho⟩).symm
theorem OddsD.fin {v odd0 odd : Int} {l : List Cl} {k : Nat} {S : List Sh} (h : OddsD v odd0 l k S odd) (hs : k = l.length ∨ ¬ (0 < v ∧ 0 < odd)) : S = shD v l odd0 := by
  obtain ⟨P, hP, rfl, h1, h2⟩ := h
  rw [← h1]
  rcases hs with rfl | hs
  · rw [List.drop_of_length_le (Nat.le_refl _)]; rfl
  · rw [shD_stop _ _ _ hs]

def LowPost (l : List Cl) (A : Int) (w : World) (e : Ending) (w' : World) : Prop := ∃ v0, IsDown (lev l) 1125899906842624 A v0 ∧ RetSh (shDown l (dip v0 (lev l).reverse (A - gives (lev l) v0)).reverse) w e w'
theorem isDown_of {l : List Cl} {A i : Int} (hL : LevOk (lev l)) (hA : 0 ≤ A) (h : 0 ≤ i ∧ i ≤ 1125899906842624 ∧ (0 < i → decide (gives (lev l) (i - 1) ≤ A) = false) ∧ (i < 1125899906842624 → decide (gives (lev l) i ≤ A) = true)) : IsDown (lev l) 1125899906842624 A i := by
  obtain ⟨h0, h1, h2, h3⟩ := h
  refine ⟨h0, h1, ?_, ?_⟩
  · by_cases hi : i < 1125899906842624
    · have := h3 hi; simpa using this
    · have : i = 1125899906842624 := by omega
      rw [this, gives_top _ _ (fun x hx => (hL x hx).2)]
      exact hA
  · by_cases hi : 0 < i
    · right; have := h2 hi; simp at this; omega
    · left; omega

set_option maxRecDepth 100000 in
set_option maxHeartbeats 8000000 in
theorem lower_any (l : List Cl) (hl : l.length ≤ 16) (hL : LevOk (lev l)) (A : Int) (hA0 : 0 ≤ A) (hA1 : A ≤ 1125899906842624) (v : Value) (w : World) (hS : ClAt w v l) :
    Calls Try.prog 35 #[v, .int .u64 A] w (LowPost l A w) := by
  obtain ⟨Ad, c, rfl, hc1, hc2, hR⟩ := id hS
  unfold maxLen at hc2
  obtain ⟨W0, hW⟩ : ∃ W0, ((w.alloc (.cells #[.slice Ad l.length c] 24)).alloc (.cells #[.int .u64 A] 23)).alloc (.cells #[.func (.func 47) #[] #[.pointer (some ⟨w.heap.size, 0, none⟩)]] 65) = W0 := ⟨_, rfl⟩
  have hB0 : Below w.heap.size w W0 := by rw [← hW]; exact bal (bal (bal (Below.refl _ _) _) _) _
  have k0 : Blk W0 w.heap.size 24 #[.slice Ad l.length c] := by rw [← hW]; exact ((Blk.new _ _ _).alloc _).alloc _
  have k1 : Blk W0 (w.heap.size + 1) 23 #[.int .u64 A] := by rw [← hW]; exact (Blk.new1 _ _ _ _).alloc _
  have k2 : Blk W0 (w.heap.size + 1 + 1) 65 #[.func (.func 47) #[] #[.pointer (some ⟨w.heap.size, 0, none⟩)]] := by rw [← hW]; exact Blk.new2 _ _ _ _ _
  have HS0 : Hid (ClAt W0 (.slice Ad l.length c) l) := hidI (by unfold ClAt at hS ⊢; exact hS.below hB0)
  have HS := Lib.hid hS
  have HW := Lib.hid hW
  have K0 := Lib.hid k0
  have K1 := Lib.hid k1
  have K2 := Lib.hid k2
  have HSr := Lib.hid (Search_dn 1125899906842624 (by decide) (by decide) (.pointer (some ⟨w.heap.size + 1 + 1, 0, none⟩)) (.pointer (some ⟨w.heap.size + 1, 0, none⟩)) (fun m => decide (gives (lev l) m ≤ A)) W0
    (fun m w' hm0 hm1 hb => under_any l hl hL m A hm0 (by omega) w.heap.size (w.heap.size + 1 + 1) (w.heap.size + 1) _ w' ((k0.below hb).cell 0) (k0.below hb).lt (by unfold ClAt; exact SlAt.below HS0.out hb) ((k2.below hb).cell 0) (k2.below hb).lt ((k1.below hb).cell 0) (k1.below hb).lt))
  have HL := Lib.hid hL
  clear hS hR k0 k1 k2 hW hL
  go_enter Try.func35, Try.ntmps35
  go_wp2_with fail
  rw [HW.out]
  refine HSr.out.mono ?_
  rintro e w1 ⟨i, hi, rfl, hb1⟩
  have U := hidI (isDown_of HL.out hA0 hi)
  obtain ⟨hi0, hi1, _, _⟩ := hi
  have k0 := K0.out.below hb1
  have k1 := K1.out.below hb1
  have k2 := K2.out.below hb1
  have HS1 : Hid (ClAt w1 (.slice Ad l.length c) l) := hidI (by unfold ClAt; exact SlAt.below HS0.out hb1)
  have hB1 : Below w.heap.size w w1 := bnext hB0 hb1
  have a0 := k0.cell 0
  have a1 := k1.cell 0
  have a2 := k2.cell 0
  have b0 := k0.lt
  have b1 := k1.lt
  have b2 := k2.lt
  have hn0 := gives_nonneg (lev l) i
  have hnA : gives (lev l) i ≤ A := U.out.2.2.1
  have HN := hidI (fun w' hB => gives_any l hl HL.out i (by omega) (by omega) w.heap.size (.slice Ad l.length c) w' ((k0.below hB).cell 0) (k0.below hB).lt (by unfold ClAt; exact SlAt.below HS1.out hB))
  have K0' := Lib.hid k0
  have HR1 : Hid (∃ c', Reads w1 4 Ad l.length (fl Cl.cells l) ∧ c' = c) := hidI (by obtain ⟨A', c', e, _, _, h⟩ := HS1.out; cases e; exact ⟨c, h, rfl⟩)
  obtain ⟨od, hod⟩ : ∃ od, A - gives (lev l) i = od := ⟨_, rfl⟩
  have hod0 : 0 ≤ od := by omega
  have hod1 : od ≤ 1125899906842624 := by omega
  have HOD := Lib.hid hod
  clear HSr HS0 K0 K1 K2 hb1 k0 k1 k2 HW hod
  go_upto_region 3 with fail
  go_cut [7] (fun s9 wx => s9 = .int .u64 od ∧ Below w1.heap.size w1 wx)
  case first =>
    have WR : IntKind.u64.wrap (A - gives (lev l) i) = A - gives (lev l) i := IntWalk.u64_in _ (by omega)
    go_region_held3 (fun w' => w'.cell? ⟨w.heap.size + 1, 0, none⟩ = some (.int .u64 A) ∧ w'.cell? ⟨w.heap.size + 1 + 1, 0, none⟩ = some (.func (.func 47) #[] #[.pointer (some ⟨w.heap.size, 0, none⟩)])) (first | go_keep | exact ⟨(hcf _ _ b1).trans a1, (hcf _ _ b2).trans a2⟩)
      (first | (go_at_call 47; refine (HN.out _ ?_).mono ?_; exact (by repeat (first | with_reducible exact Below.refl _ _ | with_reducible refine Below.drew ?_ | with_reducible refine below_drewN ?_ _ | with_reducible refine bal ?_ _ | with_reducible refine bset ?_ (by first | (simp; done) | (simp; omega)) _ | with_reducible refine bnext ?_ (by assumption) | with_reducible assumption)); rintro e w2 ⟨rfl, hb3⟩; have hcf := (bcell hb3).1))
    all_goals
      have hB : Below w1.heap.size w1 w2 := (by repeat (first | with_reducible exact Below.refl _ _ | with_reducible refine Below.drew ?_ | with_reducible refine below_drewN ?_ _ | with_reducible refine bal ?_ _ | with_reducible refine bset ?_ (by first | (simp; done) | (simp; omega)) _ | with_reducible refine bnext ?_ (by assumption) | with_reducible assumption))
      clear hcf
      go_wp2_with fail
      go_meet
      exact ⟨by rw [HOD.out], hB⟩
  case rest =>
    obtain ⟨rfl, hB⟩ := hcut
    have k0 := K0'.out.below hB
    have hR := HR1.out.choose_spec.1.keep hB.size fun b o h => hB.cell (p := ⟨b, o, none⟩) h
    have hBc : Below w.heap.size w wc := bnext hB1 hB
    have hz := hBc.size
    obtain ⟨i0, hi', hz0', hz1', hz2'⟩ := info_parts infoSh
    have b0c := k0.lt
    have d0 := k0.cell 0
    have K0 := Lib.hid k0
    have HR := Lib.hid hR
    clear a0 a1 a2 b0 b1 b2 hn0 hnA HN K0' HR1 HS1 hR k0 hB hB1
    go_wp2_with (first
      | (at_make; refine wpList_make_full wc rfl _ _ 28 rfl w.heap.size 58 i0 (.agg #[.int .i64 0, .int .u64 0]) 2 Try.underlying28 hi' hz0' hz1' .i64 .i64 _ _ l.length (by rfl) (by rfl) rfl rfl (by rw [hz2']; omega) (by unfold maxLen; omega) hz ?_; intro w2 hown hgrow; have hO : Hid (w2.ownsRow w.heap.size 58 2 (.slice (some ⟨wc.heap.size, 0, none⟩) l.length l.length) l.length (fl Sh.cells (dnTo i l 0))) := hidI (by have q := made_fl sh2 (by decide) (⟨0, 0⟩ : Sh) l.length; rw [show dnTo i l 0 = List.replicate l.length ⟨0, 0⟩ from by simp [dnTo], ← q]; exact hown); have k0 := K0.out.grown hgrow (by simp); have hG : wc.heap.size < w2.heap.size := (hown.lt wc.heap.size rfl).2; have hB2 : Below w.heap.size w w2 := hBc.grown hgrow hz (fun _ h => by cases h); have d0 := k0.cell 0; clear hown hgrow))
    obtain ⟨G, hGe⟩ : ∃ G, wc.heap.size = G := ⟨_, rfl⟩
    have hwG : w.heap.size < G := by omega
    have hR0 := Lib.hid hBc
    rw [hGe] at hO hG ⊢
    have K2 := Lib.hid k0
    have HW : Hid (∃ q : Reads w 4 Ad l.length (fl Cl.cells l), True) := hidI (by obtain ⟨A', c', e, _, _, h⟩ := HS.out; cases e; exact ⟨h, trivial⟩)
    clear k0 d0 HR K0 hGe hR0 hBc
    go_loopw [27] (fun a wr => ∃ k : Nat, k ≤ l.length ∧ a = .int .i64 k ∧ (Blk wr w.heap.size 24 #[.slice Ad l.length c] ∧ wr.ownsRow w.heap.size 58 2 (.slice (some ⟨G, 0, none⟩) l.length l.length) l.length (fl Sh.cells (dnTo i l k)) ∧ G < wr.heap.size ∧ Below w.heap.size w wr)) (fun a _ => l.length - (intOf a).toNat)
    case atStart => exact ⟨0, by omega, rfl, K2.out, hO.out, hG, hB2⟩
    case round =>
      clear K2 hO hG hB2
      obtain ⟨k, hk, rfl, k0, hO, hG, hB⟩ := hrel
      have K0 := Lib.hid k0
      have d0 := k0.cell 0
      by_cases hlt : k < l.length
      · obtain ⟨x, hx⟩ : ∃ x, l[k]? = some x := ⟨_, List.getElem?_eq_getElem hlt⟩
        obtain ⟨q, _⟩ := HW.out
        obtain ⟨b, o, rfl, hb, x0, x1, x2, x3⟩ := reads_fl4 cl4 (q.keep hB.size fun b o h => hB.cell (p := ⟨b, o, none⟩) h) rfl hx (by rfl : x.cells = [_, _, _, _])
        have hi : (k : Int) < l.length := by omega
        have e0 := own_cell sh2 hO k 0 (dnTo_at i l k hlt) (by decide)
        have e1 := own_cell sh2 hO k 1 (dnTo_at i l k hlt) (by decide)
        have f0 := hO.frozenAt (k * 2)
        have f1 := hO.frozenAt (k * 2 + 1)
        rw [Nat.add_zero] at e0
        have e0' : wr.cell? ⟨G, k * 2, none⟩ = some (.int .i64 0) := e0
        have e1' : ∀ (u : Value) (o : Obj), ((wr.setCell ⟨G, k * 2, none⟩ u).alloc o).cell? ⟨G, k * 2 + 1, none⟩ = some (.int .u64 0) := fun u o => by
          rw [oldcell _ (by simpa using hG)]
          refine (World.cell?_setCell_other wr _ _ u ?_).trans e1
          intro h
          injection h with _ h _
          omega
        have f1' : ∀ (u : Value) (o : Obj), ((wr.setCell ⟨G, k * 2, none⟩ u).alloc o).frozen? ⟨G, k * 2 + 1, none⟩ = false := fun u o => by
          exact ((hO.stored (k * 2) u).1.alloc o).frozenAt (k * 2 + 1)
        clear e0 e1
        have hGs : ¬ G = wr.heap.size := by omega
        have P := Lib.hid (own_store sh2 (own_store sh2 hO k 0 (y := ⟨x.node, 0⟩) (u := .int .i64 x.node) (dnTo_at i l k hlt) (by decide) rfl) k 1 (y := mkDn i x) (u := .int .u64 (x.res - mn x.res i)) (List.getElem?_set_self (by rw [dnTo_len i l k hk]; exact hlt)) (by decide) rfl)
        rw [Nat.add_zero, List.set_set, dnTo_next i l k hx] at P
        obtain ⟨hx0, hx1⟩ := HL.out x.res (List.mem_of_getElem? (lev_get hx))
        clear hx hO k0 q
        by_cases c1 : i < x.res
        · have HM : Hid (mn x.res i = i) := if_pos c1
          rw [HM.out] at P
          go_wp2_with fail
          go_roundw
          case rel => exact ⟨k + 1, by omega, by go_num, ((K0.out.far (by show w.heap.size ≠ G; omega) _).far (by show w.heap.size ≠ G; omega) _).alloc _, P.out.alloc _, by simp; omega, (by repeat (first | with_reducible exact Below.refl _ _ | with_reducible refine Below.drew ?_ | with_reducible refine below_drewN ?_ _ | with_reducible refine bal ?_ _ | with_reducible refine bset ?_ (by first | (simp; done) | (simp; omega)) _ | with_reducible refine bnext ?_ (by assumption) | with_reducible assumption))⟩
          case measure => simp [intOf]; omega
        · have HM : Hid (mn x.res i = x.res) := if_neg c1
          have c1' : x.res ≤ i := by omega
          rw [HM.out, Int.sub_self] at P
          go_wp2_with fail
          all_goals go_roundw
          case rel => exact ⟨k + 1, by omega, by go_num, ((K0.out.far (by show w.heap.size ≠ G; omega) _).far (by show w.heap.size ≠ G; omega) _).alloc _, P.out.alloc _, by simp; omega, (by repeat (first | with_reducible exact Below.refl _ _ | with_reducible refine Below.drew ?_ | with_reducible refine below_drewN ?_ _ | with_reducible refine bal ?_ _ | with_reducible refine bset ?_ (by first | (simp; done) | (simp; omega)) _ | with_reducible refine bnext ?_ (by assumption) | with_reducible assumption))⟩
          case measure => simp [intOf]; omega
      · obtain rfl : k = l.length := by omega
        rw [dnTo_end] at hO
        have HO := Lib.hid hO
        clear hO k0
        go_wp2_with fail
        go_loopw [7, 48] (fun s a wr => ∃ (k : Nat) (S : List Sh) (odd : Int), k ≤ l.length ∧ a = .int .i64 k ∧ s = .int .u64 odd ∧ S.length = l.length ∧ OddsD i od l.reverse k S.reverse odd ∧ (Blk wr w.heap.size 24 #[.slice Ad l.length c] ∧ wr.ownsRow w.heap.size 58 2 (.slice (some ⟨G, 0, none⟩) l.length l.length) l.length (fl Sh.cells S) ∧ G < wr.heap.size ∧ Below w.heap.size w wr)) (fun _ a _ => l.length - (intOf a).toNat)
        case atStart => exact ⟨0, _, od, by omega, rfl, rfl, by simp, by rw [← List.map_reverse]; exact OddsD.start hod0, K0.out, HO.out, hG, hB⟩
        case round =>
          clear K0 HO hG hB d0 hk hlt
          obtain ⟨k, S, odd, hk, rfl, rfl, hSl, hQ, k0, hO, hG, hB⟩ := hrel
          have hd0 := hQ.choose_spec.2.2.2.1
          have hd1 := Int.le_trans hQ.choose_spec.2.2.2.2 hod1
          have K0 := Lib.hid k0
          have d0 := k0.cell 0
          have hz := hB.size
          have HSL := Lib.hid hSl
          clear hSl
          by_cases hlt : k < l.length
          · obtain ⟨m, hm⟩ : ∃ m, m + k + 1 = l.length := ⟨l.length - 1 - k, by omega⟩
            obtain ⟨x, hx⟩ : ∃ x, l[m]? = some x := ⟨_, List.getElem?_eq_getElem (by omega)⟩
            have hxr : l.reverse[k]? = some x := by rw [List.getElem?_reverse hlt, show l.length - 1 - k = m by omega]; exact hx
            obtain ⟨q, _⟩ := HW.out
            obtain ⟨b, o, rfl, hb, x0, x1, x2, x3⟩ := reads_fl4 cl4 (q.keep hB.size fun b o h => hB.cell (p := ⟨b, o, none⟩) h) rfl hx (by rfl : x.cells = [_, _, _, _])
            have hi : (k : Int) < l.length := by omega
            have hmi : (l.length : Int) - 1 - (k : Int) = (m : Int) := by omega
            have hml : (m : Int) < l.length := by omega
            obtain ⟨hx0, hx1⟩ := HL.out x.res (List.mem_of_getElem? (lev_get hx))
            have HM' := Lib.hid hm
            clear hm
            by_cases hstop : 0 < i ∧ 0 < odd
            · obtain ⟨hs1, hs2⟩ := hstop
              have t1 : (odd == 0) = false := by rw [beq_eq_false_iff_ne]; omega
              have t2 : (i == 0) = false := by rw [beq_eq_false_iff_ne]; omega
              by_cases c1 : i ≤ x.res
              · have HM : Hid (mn x.res i = i) := hidI (by unfold mn; split <;> omega)
                have hat : S[m]? = some (mkDn i x) := by
                  have h1 := hQ.at hxr
                  rw [List.getElem?_reverse (by have := HSL.out; omega), show S.length - 1 - k = m by have := HSL.out; have := HM'.out; omega] at h1
                  exact h1
                have e1 : wr.cell? ⟨G, m * 2 + 1, none⟩ = some (.int .u64 (x.res - mn x.res i)) := own_cell sh2 hO m 1 hat (by decide)
                have f1 := hO.frozenAt (m * 2 + 1)
                have P := Lib.hid (own_store sh2 hO m 1 (y := ⟨x.node, x.res - mn x.res i + 1⟩) (u := .int .u64 (x.res - mn x.res i + 1)) hat (by decide) rfl)
                have HQ := Lib.hid (hQ.take hxr c1 hs1 hs2)
                rw [← set_rev S m k _ (by have := HSL.out; have := HM'.out; omega)] at HQ
                rw [HM.out] at e1 P HQ
                clear hx hO k0 q hQ hxr hat
                go_wp2_with fail
                go_roundw
                case rel => exact ⟨k + 1, _, odd - 1, by omega, by go_num, rfl, by rw [List.length_set]; exact HSL.out, HQ.out, K0.out.far (by show w.heap.size ≠ G; omega) _, P.out, by simpa using hG, (by repeat (first | with_reducible exact Below.refl _ _ | with_reducible refine Below.drew ?_ | with_reducible refine below_drewN ?_ _ | with_reducible refine bal ?_ _ | with_reducible refine bset ?_ (by first | (simp; done) | (simp; omega)) _ | with_reducible refine bnext ?_ (by assumption) | with_reducible assumption))⟩
                case measure => simp [intOf]; omega
              · have HQ := Lib.hid (hQ.skip hxr c1)
                have HO := Lib.hid hO
                clear hx hO k0 q hQ hxr
                go_wp2_with fail
                go_roundw
                case rel => exact ⟨k + 1, _, odd, by omega, by go_num, rfl, HSL.out, HQ.out, K0.out, HO.out, hG, hB⟩
                case measure => simp [intOf]; omega
            · have HF : Hid (S = (shD i l.reverse od).reverse) := hidI (by rw [← hQ.fin (.inr hstop), List.reverse_reverse])
              have HS2 : Hid (ShAt wr (.slice (some ⟨G, 0, none⟩) l.length l.length) S) := hidI (by unfold ShAt; rw [HSL.out]; exact SlAt.own hO)
              have HG := given_any S _ wr HS2.out (by rw [HSL.out]; omega)
              rw [HF.out, lower_fin] at HG
              have HGV := Lib.hid HG
              have t3 : (odd == 0) = true ∨ ((odd == 0) = false ∧ (i == 0) = true) := by
                by_cases h0 : odd = 0
                · exact .inl (by rw [beq_iff_eq]; exact h0)
                · right
                  refine ⟨by rw [beq_eq_false_iff_ne]; exact h0, ?_⟩
                  rw [beq_iff_eq]
                  by_cases h1 : 0 < i
                  · exact absurd ⟨h1, by omega⟩ hstop
                  · omega
              clear hx hO k0 q hQ HG hstop hxr
              rcases t3 with t3 | ⟨t3, t4⟩
              all_goals
                go_wp2_with fail
                refine HGV.out.mono ?_
                rintro e w3 ⟨A', c', rfl, ho, hb3⟩
                go_wp2_with fail
                go_ret
                exact ⟨i, U.out, A', c', by rw [HOD.out]; rfl, by rw [HOD.out]; exact own_mono ho hB.size, bnext hB hb3⟩
          · obtain rfl : k = l.length := by omega
            have HF : Hid (S = (shD i l.reverse od).reverse) := hidI (by rw [← hQ.fin (.inl (by simp)), List.reverse_reverse])
            have HS2 : Hid (ShAt wr (.slice (some ⟨G, 0, none⟩) l.length l.length) S) := hidI (by unfold ShAt; rw [HSL.out]; exact SlAt.own hO)
            have HG := given_any S _ wr HS2.out (by rw [HSL.out]; omega)
            rw [HF.out, lower_fin] at HG
            have HGV := Lib.hid HG
            clear hO k0 hQ HG
            go_wp2_with fail
            refine HGV.out.mono ?_
            rintro e w3 ⟨A', c', rfl, ho, hb3⟩
            go_wp2_with fail
            go_ret
            exact ⟨i, U.out, A', c', by rw [HOD.out]; rfl, by rw [HOD.out]; exact own_mono ho hB.size, bnext hB hb3⟩
end Go.Proofs.Ytlpdebbedoibiaa
