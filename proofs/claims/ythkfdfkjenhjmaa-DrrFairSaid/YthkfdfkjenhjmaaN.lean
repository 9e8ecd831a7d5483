/- Contract: the order of wants (the program). -/
import Derived.Test.YthkfdfkjenhjmaaM
import Derived.Test.YthkfdfkjenhjmaaApp3
namespace Go.Proofs.Ythkfdfkjenhjmaa
open Go.RowKit Go.Conc
set_option linter.unusedVariables false
set_option linter.unusedSimpArgs false

def nums (q : List Nat) : List Int := q.map fun (i : Nat) => (i : Int)
def RetO (o : List Nat) (d : Dr) (er : Int) (w : World) (e : Ending) (w' : World) : Prop := ∃ vo v, e = .returned (.tuple #[vo, v, .int .i64 er]) ∧ IntAt w' vo (nums o) ∧ DrV w' v d ∧ Below w.heap.size w w'
/-- the lines of which k are made -/
def lns (g k : Nat) : Array Value := #[if 0 < k then .chan (some (g + 1)) else .chan none, if 1 < k then .chan (some (g + 1 + 1)) else .chan none, if 2 < k then .chan (some (g + 1 + 2)) else .chan none]
theorem lns_set (g k : Nat) (hk : k < 3) : (lns g k).setIfInBounds k (.chan (some (g + 1 + k))) = lns g (k + 1) := by
  match k, hk with
  | 0, _ => rfl
  | 1, _ => rfl
  | 2, _ => rfl
theorem lns_at (g k : Nat) (hk : k < 3) : (lns g k)[k]? = some (.chan none) := by
  match k, hk with
  | 0, _ => rfl
  | 1, _ => rfl
  | 2, _ => rfl
theorem ChanAt.far {w : World} {c cap : Nat} {q : List Nat} (h : ChanAt w c cap q) {p : Addr} (hp : c ≠ p.block) (u : Value) : ChanAt (w.setCell p u) c cap q := by
  obtain ⟨s, r, h⟩ := h
  exact ⟨s, r, heap_far h hp u⟩
theorem ChanAt.lt {w : World} {c cap : Nat} {q : List Nat} (h : ChanAt w c cap q) : c < w.heap.size := by
  obtain ⟨s, r, h⟩ := h
  exact (Array.getElem?_eq_some_iff.1 h).1
theorem ChanAt.alloc {w : World} {c cap : Nat} {q : List Nat} (h : ChanAt w c cap q) (o : Obj) : ChanAt (w.alloc o) c cap q := by
  have hl := h.lt
  obtain ⟨s, r, h⟩ := h
  exact ⟨s, r, (Below.heap_alloc w o c hl).trans h⟩
theorem ChanAt.below {w w' : World} {c cap : Nat} {q : List Nat} (h : ChanAt w c cap q) (hb : Below w.heap.size w w') : ChanAt w' c cap q := by
  have hl := h.lt
  obtain ⟨s, r, h⟩ := h
  exact ⟨s, r, (hb.block c hl).trans h⟩
theorem ChanAt.only {S : Nat → Prop} {w w' : World} {c cap : Nat} {q : List Nat} (h : ChanAt w c cap q) (hb : Only S w w') (hs : ¬ S c) : ChanAt w' c cap q := by
  have hl := h.lt
  obtain ⟨s, r, h⟩ := h
  exact ⟨s, r, (hb.block c hl hs).trans h⟩
theorem ChanAt.grown {w w' : World} {c cap : Nat} {q : List Nat} {row : Option Nat} (h : ChanAt w c cap q) (hb : w.grownBy w' row) (hr : ∀ k, row = some k → k ≠ c) : ChanAt w' c cap q := by
  have hl := h.lt
  obtain ⟨s, r, h⟩ := h
  exact ⟨s, r, (hb.block c hl (fun e => hr c e.symm rfl)).trans h⟩
theorem ChanAt.new (w : World) (n g : Nat) (hg : w.heap.size = g) : ChanAt (w.alloc (.chan n #[] false 0 0 false)) g n [] := by
  subst hg
  exact ⟨0, 0, World.alloc_heap_new w _⟩
theorem ChanAt.other {w : World} {c cap g : Nat} {q : List Nat} (h : ChanAt w g cap q) (hg : g ≠ c) (n : Nat) (buf : Array Value) (cl : Bool) (s r : Nat) (tm : Bool) : ChanAt (w.setChan c n buf cl s r tm) g cap q := by
  obtain ⟨s', r', h⟩ := h
  exact ⟨s', r', (heap_setChan_ne hg n buf cl s r tm).trans h⟩
def cof (g : Nat) : Nat → Nat := fun p => g + 1 + p
theorem lns_chs (g : Nat) : lns g 3 = chs (cof g) := rfl
theorem bytesI : ∃ i, Try.prog.info? 3 = some i ∧ i.bytes = 8 := by
  have h : (Try.prog.info? 3).map (·.bytes) = some 8 := by kernel_rfl
  obtain ⟨i, hi, hb⟩ := Option.map_eq_some_iff.1 h
  exact ⟨i, hi, hb⟩
theorem mkChan (w : World) (n : Nat) (hn : n ≤ 100000) : (Instr.makeChan 69 (.int .i64 (n : Int))).run Try.prog w = .ok (.chan (some w.heap.size)) (w.alloc (.chan n #[] false 0 0 false)) := by
  obtain ⟨i, hi, hb⟩ := bytesI
  exact run_makeChan (P := Try.prog) (w := w) Try.underlying69 hi .i64 n (by omega) (by rw [hb]; omega)
theorem ordE_chk {d : Dr} {l : List Wt} {b : Int} (h : chk d ≠ 0) : ordE d l b = chk d := if_pos h
theorem ordE_bad {d : Dr} {l : List Wt} {b : Int} (h : chk d = 0) (hb : l.any wtBad = true) : ordE d l b = 2 := by
  unfold ordE; rw [if_neg (by omega), if_pos hb]
theorem ordE_neg {d : Dr} {l : List Wt} {b : Int} (h : chk d = 0) (hb : l.any wtBad = false) (hn : b < 0) : ordE d l b = 2 := by
  unfold ordE; rw [if_neg (by omega), hb, if_neg (by decide), if_pos hn]
theorem ordE_ok {d : Dr} {l : List Wt} {b : Int} (h : chk d = 0) (hb : l.any wtBad = false) (hn : ¬ b < 0) : ordE d l b = 0 := by
  unfold ordE; rw [if_neg (by omega), hb, if_neg (by decide), if_neg hn]
theorem ord_err {d : Dr} {l : List Wt} {b e : Int} (h : ordE d l b = e) (he : e ≠ 0) : ord d l b = ([], zDr, e) := by
  unfold ord; rw [h, if_pos he]
/-- k wants are well -/
def WtMid (l : List Wt) (k : Nat) : Prop := ∀ i, i < k → wtBad (wtAt l i) = false
theorem WtMid.hit {l : List Wt} {k : Nat} (hk : k < l.length) (h : wtBad (wtAt l k) = true) : l.any wtBad = true :=
  List.any_eq_true.2 ⟨wtAt l k, by unfold wtAt; rw [List.getD_eq_getElem?_getD, List.getElem?_eq_getElem hk]; exact List.getElem_mem hk, h⟩
theorem WtMid.next {l : List Wt} {k : Nat} (h : WtMid l k) (hb : wtBad (wtAt l k) = false) : WtMid l (k + 1) := by
  intro i hi
  by_cases e : i = k
  · subst e; exact hb
  · exact h i (by omega)
theorem WtMid.all {l : List Wt} (h : WtMid l l.length) : l.any wtBad = false := by
  rw [Bool.eq_false_iff]
  intro hb
  obtain ⟨x, hx, hxb⟩ := List.any_eq_true.1 hb
  obtain ⟨i, hi, rfl⟩ := List.getElem_of_mem hx
  have := h i hi
  unfold wtAt at this
  rw [List.getD_eq_getElem?_getD, List.getElem?_eq_getElem hi] at this
  simp at this
  rw [this] at hxb
  cases hxb
theorem run_eq3 (a b c d e f : Int) (w : World) : (Op.equalIn 10000 65 (.agg #[.int .i64 a, .int .i64 b, .int .i64 c]) (.agg #[.int .i64 d, .int .i64 e, .int .i64 f])).run Try.prog w = .ok (a == d && b == e && c == f) w := by
  obtain ⟨i0, hi, hz0, hz1, hz2⟩ := info_parts infoI
  show (Op.equalIn (9998 + 1 + 1) _ _ _).run _ _ = _
  generalize 9998 = D
  have h1 : ∀ (x y : Int) (w : World), (Op.equalIn (D + 1) 3 (.int .i64 x) (.int .i64 y)).run Try.prog w = .ok (x == y) w := by
    intro x y w
    simp [Op.equalIn, run_underlying Try.underlying3]
  rw [Op.equalIn]
  simp [run_underlying Try.underlying65, sizeOf, typeInfo, hi, hz1, part, h1]
  rw [show List.range' 0 3 = [0, 1, 2] from rfl]
  by_cases e1 : a = d <;> by_cases e2 : b = e <;> by_cases e3 : c = f <;> simp [List.forIn_cons, isAgg, run_underlying Try.underlying3, h1, e1, e2, e3]
theorem ordL_zero {l : List Wt} {Q : Nat → List Nat} (h : hds l Q = [0, 0, 0]) (g : Nat) (d : Dr) (b : Int) : ordL l g d Q b = ([], d) := by
  cases g with
  | zero => rfl
  | succ g => rw [ordL, if_pos h]
theorem ordL_stop {l : List Wt} {Q : Nat → List Nat} {d : Dr} {b : Int} (h : b < at0 (hds l Q) (ends d (hds l Q)).2) (g : Nat) : ordL l g d Q b = ([], d) := by
  cases g with
  | zero => rfl
  | succ g =>
    rw [ordL]
    by_cases hz : hds l Q = [0, 0, 0]
    · rw [if_pos hz]
    · rw [if_neg hz, if_pos h]
theorem ordL_go {l : List Wt} {Q : Nat → List Nat} {d : Dr} {b : Int} (hz : hds l Q ≠ [0, 0, 0]) (h : ¬ b < at0 (hds l Q) (ends d (hds l Q)).2) (g : Nat) {i : Nat} {r : List Nat} (hQ : Q (ends d (hds l Q)).2 = i :: r) :
    ordL l (g + 1) d Q b = (i :: (ordL l g (srv d (hds l Q)) (pop Q (ends d (hds l Q)).2) (b - at0 (hds l Q) (ends d (hds l Q)).2)).1, (ordL l g (srv d (hds l Q)) (pop Q (ends d (hds l Q)).2) (b - at0 (hds l Q) (ends d (hds l Q)).2)).2) := by
  rw [ordL, if_neg hz, if_neg h, hQ]
  rfl
def fk (Q : Nat → List Nat) (k : Nat) : List Int := [if 0 < k then fst1 (Q 0) else 0, if 1 < k then fst1 (Q 1) else 0, if 2 < k then fst1 (Q 2) else 0]
def hkk (l : List Wt) (Q : Nat → List Nat) (k : Nat) : List Int := [if 0 < k then hsz l (Q 0) else 0, if 1 < k then hsz l (Q 1) else 0, if 2 < k then hsz l (Q 2) else 0]
theorem fk_set (Q : Nat → List Nat) (k : Nat) (hk : k < 3) : (fk Q k).set k (fst1 (Q k)) = fk Q (k + 1) := by
  match k, hk with
  | 0, _ => rfl
  | 1, _ => rfl
  | 2, _ => rfl
theorem hkk_set (l : List Wt) (Q : Nat → List Nat) (k : Nat) (h3 : k < 3) : (hkk l Q k).set k (hsz l (Q k)) = hkk l Q (k + 1) := by
  match k, h3 with
  | 0, _ => rfl
  | 1, _ => rfl
  | 2, _ => rfl
theorem fk_at {Q : Nat → List Nat} {p : Nat} (hp : p < 3) : at0 (fk Q 3) p = fst1 (Q p) := by
  match p, hp with
  | 0, _ => rfl
  | 1, _ => rfl
  | 2, _ => rfl
theorem fk_pop {Q : Nat → List Nat} {p : Nat} (hp : p < 3) : (fk Q 3).set p (fst1 (Q p).tail) = fk (pop Q p) 3 := by
  match p, hp with
  | 0, _ => rfl
  | 1, _ => rfl
  | 2, _ => rfl
theorem hds_pop {l : List Wt} {Q : Nat → List Nat} {p : Nat} (hp : p < 3) : (hds l Q).set p (hsz l (Q p).tail) = hds l (pop Q p) := by
  match p, hp with
  | 0, _ => rfl
  | 1, _ => rfl
  | 2, _ => rfl
theorem wtAt_of {l : List Wt} {k : Nat} {x : Wt} (h : l[k]? = some x) : wtAt l k = x := by
  unfold wtAt; rw [List.getD_eq_getElem?_getD, h]; rfl
theorem qv_push (q : List Nat) (k : Nat) : (qv q).push (.int .i64 (k : Int)) = qv (q ++ [k]) := by simp [qv]

/-- the state at the head of a round of the last loop -/
def OMid (w5 : World) (l : List Wt) (g1 gF gH g18 : Nat) (RES : List Nat × Dr) (g : Nat) (b : Int) (vo : Value) (wy : World) : Prop := ∃ (Q : Nat → List Nat) (d : Dr) (out : List Nat), qlen Q = g ∧ QOk l Q ∧ Ok d ∧ 0 ≤ b ∧ b ≤ 9223372036854775807 ∧ (out ++ (ordL l g d Q b).1, (ordL l g d Q b).2) = RES ∧ out.length + g ≤ l.length ∧
  Blk wy gF 65 (ints (fk Q 3)).toArray ∧ Blk wy gH 65 (ints (hds l Q)).toArray ∧ (∀ p, p < 3 → ChanAt wy (cof g1 p) l.length (Q p).tail) ∧
  (∃ gw cw gd cd, DrAt wy (gH + 1) g18 gw cw gd cd d.W d.q d.D d.t ∧ ∀ k, vo.ownBlock = some k → k ≠ gw ∧ k ≠ gd) ∧ OwnI wy w5.heap.size vo (nums out) ∧ Only (fun j => j = gF ∨ j = gH ∨ (∃ p, p < 3 ∧ j = cof g1 p) ∨ j = g18) w5 wy

set_option maxRecDepth 100000 in
set_option maxHeartbeats 16000000 in
theorem Order_any (d : Dr) (l : List Wt) (b : Int) (hb1 : -9223372036854775808 ≤ b) (hb2 : b ≤ 9223372036854775807) (hl : l.length ≤ 1000) (v u : Value) (w : World) (hD : DrV w v d) (hL : WtAt w u l) :
    Calls Try.prog 27 #[v, u, .int .i64 b] w (RetO (ord d l b).1 (ord d l b).2.1 (ord d l b).2.2 w) := by
  obtain ⟨W, q, D, t⟩ := d
  obtain ⟨vW, vD, rfl, hW, hDD⟩ := id hD
  obtain ⟨A, c, rfl, _⟩ := id hW
  obtain ⟨A', c', rfl, _⟩ := id hDD
  obtain ⟨Al, cl, rfl, hcl1, hcl2, _⟩ := id hL
  unfold maxLen at hcl2
  have HD := Lib.hid hD
  have HWT := Lib.hid hL
  clear hW hDD hD hL
  dsimp only at HD
  by_cases hk : chk ⟨W, q, D, t⟩ = 0
  · have t1 : (chk ⟨W, q, D, t⟩ != 0) = false := by rw [hk]; rfl
    have HK := Lib.hid hk
    have HO := Lib.hid (ok_of hk)
    have HL : Hid (lt20 ⟨W, q, D, t⟩) := Lib.hid (by have ho := ok_of hk; exact ⟨by rw [ho.w3]; decide, by rw [ho.d3]; decide⟩)
    have hmk := fun w => mkChan w l.length (by omega)
    have heq := run_eq3
    clear hk
    go_enter Try.func27, Try.ntmps27
    go_wp2_with fail
    refine (Check_any ⟨W, q, D, t⟩ _ _ (((HD.out.alloc _).alloc _).alloc _)).mono ?_
    rintro e w1 ⟨rfl, hb1⟩
    have kd := (((Blk.new w 24 #[.slice A W.length c, .int .i64 q, .slice A' D.length c', .int .i64 t]).alloc (.cells #[.slice Al l.length cl] 42)).alloc (.cells #[.slice none 0 0, .int .i64 0, .slice none 0 0, .int .i64 0] 24)).below hb1
    have kl := ((Blk.new1 w (.cells #[.slice A W.length c, .int .i64 q, .slice A' D.length c', .int .i64 t] 24) 42 #[.slice Al l.length cl]).alloc (.cells #[.slice none 0 0, .int .i64 0, .slice none 0 0, .int .i64 0] 24)).below hb1
    have kz := (Blk.new2 w (.cells #[.slice A W.length c, .int .i64 q, .slice A' D.length c', .int .i64 t] 24) (.cells #[.slice Al l.length cl] 42) 24 #[.slice none 0 0, .int .i64 0, .slice none 0 0, .int .i64 0]).below hb1
    have hB1 : Below w.heap.size w w1 := bnext (bal (bal (bal (Below.refl w.heap.size w) _) _) _) hb1
    have hs1 : w.heap.size + 1 + 1 < w1.heap.size := kz.lt
    have KD := Lib.hid kd
    have KL := Lib.hid kl
    have KZ := Lib.hid kz
    obtain ⟨y0, y1, y2, y3⟩ := kz.c4
    obtain ⟨g0, g1, g2, g3⟩ := kz.f4
    clear kd kl kz hb1
    go_wp2_with fail
    go_loopw [29] (fun a wr => ∃ k : Nat, k ≤ 3 ∧ a = .int .i64 k ∧ wr.heap.size = w1.heap.size + 1 + k ∧ Blk wr w1.heap.size 70 (lns w1.heap.size k) ∧ (∀ p, p < k → ChanAt wr (cof w1.heap.size p) l.length []) ∧ Below w1.heap.size w1 wr) (fun a _ => 3 - (intOf a).toNat)
    case atStart => exact ⟨0, by omega, rfl, by simp, Blk.new _ _ _, fun p hp => by omega, bal (Below.refl _ _) _⟩
    case round =>
      obtain ⟨k, hk, rfl, hsz, hln, hch, hB⟩ := hrel
      have KLr := Lib.hid (KL.out.below hB)
      have hcell := hln.cell k
      have hfr := hln.frozen k
      have HLN := Lib.hid hln
      have HCH := Lib.hid hch
      have HSZ := Lib.hid hsz
      have hlt0 := hln.lt
      have hltl : w.heap.size + 1 < wr.heap.size := by omega
      have hltd : w.heap.size < wr.heap.size := by omega
      have el := KLr.out.cell 0
      clear hln hch hsz
      by_cases hlt : k < 3
      · have hi : (k : Int) < 3 := by omega
        rw [lns_at _ _ hlt] at hcell
        go_wp2_with fail
        go_roundw
        case rel =>
          refine ⟨k + 1, by omega, by go_num, by simp; have := HSZ.out; omega, ?_, fun p hp => ?_, ?_⟩
          · have h2 := (HLN.out.set k (.chan (some wr.heap.size))).alloc (.chan l.length #[] false 0 0 false)
            rw [HSZ.out, lns_set _ _ hlt] at h2
            rw [HSZ.out]
            exact h2
          · by_cases e : p = k
            · subst e
              exact ChanAt.new _ _ _ (by simp [cof]; exact HSZ.out)
            · exact ((HCH.out p (by omega)).far (p := ⟨w1.heap.size, k, none⟩) (by show w1.heap.size + 1 + p ≠ w1.heap.size; omega) _).alloc _
          · exact (hB.setCell (Nat.le_refl _) _).alloc (by simp; omega) _
        case measure => simp [intOf]; omega
      · obtain rfl : k = 3 := by omega
        rw [show (((3 : Nat)) : Int) = 3 from rfl] at *
        have hBw : Below w.heap.size w wr := bnext hB1 hB
        have KLN : Hid (Blk wr w1.heap.size 70 (chs (cof w1.heap.size))) := HLN
        have KDr := Lib.hid (KD.out.below hB)
        have KZr := Lib.hid (KZ.out.below hB)
        clear HLN hcell hfr y0 y1 y2 y3 g0 g1 g2 g3 KL KD KZ
        go_wp2_with fail
        clear el
        obtain ⟨wl, rfl⟩ : ∃ wl : World, wl = wr := ⟨_, rfl⟩
        go_loopw [40] (fun a wr => ∃ k : Nat, k ≤ l.length ∧ a = .int .i64 k ∧ WtMid l k ∧ (∀ p, p < 3 → ChanAt wr (cof w1.heap.size p) l.length (que l k p)) ∧ Only (fun j => ∃ p, p < 3 ∧ j = cof w1.heap.size p) wl wr) (fun a _ => l.length - (intOf a).toNat)
        case atStart => exact ⟨0, by omega, rfl, fun i hi => by omega, fun p hp => HCH.out p hp, Only.refl _ _⟩
        case round =>
          obtain ⟨k, hk, rfl, hM, hch2, hOn⟩ := hrel
          have HM := Lib.hid hM
          have HC2 := Lib.hid hch2
          have hszl := HSZ.out
          have hcofS : ∀ j, (∃ p, p < 3 ∧ j = cof w1.heap.size p) → w1.heap.size < j := fun j ⟨p, hp, e⟩ => by rw [e]; unfold cof; omega
          have hBr : Below w.heap.size w wr := hBw.trans (hOn.to_below (fun j hj => by have := hcofS j hj; omega) (by omega))
          have HOn := Lib.hid hOn
          have kz := KZr.out.only hOn (fun h => by have := hcofS _ h; omega)
          have kl := KLr.out.only hOn (fun h => by have := hcofS _ h; omega)
          have kd := KDr.out.only hOn (fun h => by have := hcofS _ h; omega)
          have kn := KLN.out.only hOn (fun h => by have := hcofS _ h; omega)
          have hsw := hOn.size
          obtain ⟨y0, y1, y2, y3⟩ := kz.c4
          obtain ⟨g0, g1, g2, g3⟩ := kz.f4
          have el := kl.cell 0
          have KZ2 := Lib.hid kz
          have KL2 := Lib.hid kl
          have KD2 := Lib.hid kd
          have KN2 := Lib.hid kn
          have hlz := kz.lt
          clear hM hch2 hOn kz kl kd kn hcofS
          by_cases hlt : k < l.length
          · have hi : (k : Int) < l.length := by omega
            obtain ⟨x, hx⟩ : ∃ x, l[k]? = some x := ⟨_, List.getElem?_eq_getElem hlt⟩
            obtain ⟨A2, c2', e2, _, _, hR⟩ := HWT.out.below hBr
            cases e2
            obtain ⟨bb, oo, rfl, hbb, d0, d1⟩ := reads_fl2 wt2 hR rfl hx rfl
            have HX := Lib.hid hx
            clear hx hR
            by_cases c1 : x.p < 0
            · have HE := Lib.hid (ord_err (ordE_bad (b := b) HK.out (WtMid.hit hlt (by rw [wtAt_of HX.out]; simp [wtBad, c1]))) (by decide))
              go_wp2_with fail
              refine bodyPost_ret (v := .tuple #[.slice none 0 0, .agg #[.slice none 0 0, .int .i64 0, .slice none 0 0, .int .i64 0], .int .i64 2]) (by simp [results, Try.results27, go_sem, y0, y1, y2, y3, hlz]) rfl ?_
              rw [HE.out]
              exact ⟨_, _, rfl, SlAt.nil _ 1, zDr_v _, (by repeat (first | with_reducible exact Below.refl _ _ | with_reducible refine Below.drew ?_ | with_reducible refine below_drewN ?_ _ | with_reducible refine bal ?_ _ | with_reducible refine bset ?_ (by first | (simp; done) | (simp; omega)) _ | with_reducible refine bnext ?_ (by assumption) | with_reducible assumption))⟩
            by_cases c2 : 3 ≤ x.p
            · have HE := Lib.hid (ord_err (ordE_bad (b := b) HK.out (WtMid.hit hlt (by rw [wtAt_of HX.out]; simp [wtBad, c2]))) (by decide))
              go_wp2_with fail
              refine bodyPost_ret (v := .tuple #[.slice none 0 0, .agg #[.slice none 0 0, .int .i64 0, .slice none 0 0, .int .i64 0], .int .i64 2]) (by simp [results, Try.results27, go_sem, y0, y1, y2, y3, hlz]) rfl ?_
              rw [HE.out]
              exact ⟨_, _, rfl, SlAt.nil _ 1, zDr_v _, (by repeat (first | with_reducible exact Below.refl _ _ | with_reducible refine Below.drew ?_ | with_reducible refine below_drewN ?_ _ | with_reducible refine bal ?_ _ | with_reducible refine bset ?_ (by first | (simp; done) | (simp; omega)) _ | with_reducible refine bnext ?_ (by assumption) | with_reducible assumption))⟩
            by_cases c3 : x.s < 1
            · have HE := Lib.hid (ord_err (ordE_bad (b := b) HK.out (WtMid.hit hlt (by rw [wtAt_of HX.out]; simp [wtBad, c3]))) (by decide))
              go_wp2_with fail
              refine bodyPost_ret (v := .tuple #[.slice none 0 0, .agg #[.slice none 0 0, .int .i64 0, .slice none 0 0, .int .i64 0], .int .i64 2]) (by simp [results, Try.results27, go_sem, y0, y1, y2, y3, hlz]) rfl ?_
              rw [HE.out]
              exact ⟨_, _, rfl, SlAt.nil _ 1, zDr_v _, (by repeat (first | with_reducible exact Below.refl _ _ | with_reducible refine Below.drew ?_ | with_reducible refine below_drewN ?_ _ | with_reducible refine bal ?_ _ | with_reducible refine bset ?_ (by first | (simp; done) | (simp; omega)) _ | with_reducible refine bnext ?_ (by assumption) | with_reducible assumption))⟩
            by_cases c4 : 1200 < x.s
            · have HE := Lib.hid (ord_err (ordE_bad (b := b) HK.out (WtMid.hit hlt (by rw [wtAt_of HX.out]; simp [wtBad, c4]))) (by decide))
              go_wp2_with fail
              refine bodyPost_ret (v := .tuple #[.slice none 0 0, .agg #[.slice none 0 0, .int .i64 0, .slice none 0 0, .int .i64 0], .int .i64 2]) (by simp [results, Try.results27, go_sem, y0, y1, y2, y3, hlz]) rfl ?_
              rw [HE.out]
              exact ⟨_, _, rfl, SlAt.nil _ 1, zDr_v _, (by repeat (first | with_reducible exact Below.refl _ _ | with_reducible refine Below.drew ?_ | with_reducible refine below_drewN ?_ _ | with_reducible refine bal ?_ _ | with_reducible refine bset ?_ (by first | (simp; done) | (simp; omega)) _ | with_reducible refine bnext ?_ (by assumption) | with_reducible assumption))⟩
            obtain ⟨pn, hpn⟩ : ∃ pn : Nat, x.p = pn := ⟨x.p.toNat, by omega⟩
            rw [hpn] at d0 c1 c2
            have hp3 : pn < 3 := by omega
            have hpi : (pn : Int) < 3 := by omega
            have hpi0 : (0 : Int) ≤ pn := by omega
            have eC := chs_cell KN2.out pn hp3
            have hlr1 : w1.heap.size < wr.heap.size := by omega
            have HGOOD : Hid (wtBad (wtAt l k) = false) := Lib.hid (by rw [wtAt_of HX.out]; simp [wtBad]; omega)
            have HPN := Lib.hid hpn
            clear hpn
            go_upto_region 15 with fail
            have hcp : ∃ s r, wr.heap[cof w1.heap.size pn]? = some (.chan l.length (qv (que l k pn)) false s r false) := HC2.out pn hp3
            obtain ⟨cs, cr, hcw⟩ := hcp
            have hclt : cof w1.heap.size pn < wr.heap.size := (Array.getElem?_eq_some_iff.1 hcw).1
            have hcw2 : (wr.alloc (.cells #[.int .i64 (pn : Int), .int .i64 x.s] 46)).heap[cof w1.heap.size pn]? = some (.chan l.length (qv (que l k pn)) false cs cr false) := (Below.heap_alloc wr _ _ hclt).trans hcw
            refine wp_region_drop 6 _ _ (by decide) (opsTo_op (.pointer (some ⟨wr.heap.size, 0, none⟩)) (wr.alloc (.cells #[.int .i64 (pn : Int), .int .i64 x.s] 46)) rfl rfl (fun K hK => ?_) <| opsTo_op (.int .i64 pn) (wr.alloc (.cells #[.int .i64 (pn : Int), .int .i64 x.s] 46)) rfl rfl (fun K hK => ?_) <| opsTo_op (.pointer (some ⟨w1.heap.size, pn, none⟩)) (wr.alloc (.cells #[.int .i64 (pn : Int), .int .i64 x.s] 46)) rfl rfl (fun K hK => ?_) <| opsTo_op (.chan (some (cof w1.heap.size pn))) (wr.alloc (.cells #[.int .i64 (pn : Int), .int .i64 x.s] 46)) rfl rfl (fun K hK => ?_) <| opsTo_op (.int .i64 k) (wr.alloc (.cells #[.int .i64 (pn : Int), .int .i64 x.s] 46)) rfl rfl (fun K hK => ?_) <| opsTo_send (v := .int .i64 k) (z := .tuple #[]) rfl rfl ?_ hcw2 (by rw [qv_size]; have := que_len l k pn; omega) <| OpsTo.refl) ?_
            · go_simp
              exact hK
            · go_simp
              exact hK
            · go_simp
              exact hK
            · go_simp
              exact hK
            · go_simp
              exact hK
            · simp [execOp, scase, Act.eval, go_sem]
            rw [qv_push]
            have hne : ∀ p, p ≠ pn → cof w1.heap.size p ≠ cof w1.heap.size pn := fun p hp e => by unfold cof at e; omega
            have nC : ∀ p, p < 3 → ChanAt ((wr.alloc (.cells #[.int .i64 (pn : Int), .int .i64 x.s] 46)).setChan (cof w1.heap.size pn) l.length (qv (que l k pn ++ [k])) false (cs + 1) cr false) (cof w1.heap.size p) l.length (que l (k + 1) p) := by
              intro p hp
              rw [que_succ, wtAt_of HX.out, HPN.out]
              by_cases e : p = pn
              · subst e
                rw [if_pos rfl]
                exact ⟨cs + 1, cr, heap_setChan_eq (by rw [World.size_alloc]; omega) _ _ _ _ _ _⟩
              · rw [if_neg (by omega)]
                exact ((HC2.out p hp).alloc _).other (hne p e) _ _ _ _ _ _
            have nO : Only (fun j => ∃ p, p < 3 ∧ j = cof w1.heap.size p) wl ((wr.alloc (.cells #[.int .i64 (pn : Int), .int .i64 x.s] 46)).setChan (cof w1.heap.size pn) l.length (qv (que l k pn ++ [k])) false (cs + 1) cr false) := only_setChan (HOn.out.alloc _) (.inl ⟨pn, hp3, rfl⟩) _ _ _ _ _ _
            generalize (wr.alloc (.cells #[.int .i64 (pn : Int), .int .i64 x.s] 46)).setChan (cof w1.heap.size pn) l.length (qv (que l k pn ++ [k])) false (cs + 1) cr false = wn at nC nO ⊢
            have NC := Lib.hid nC
            have NO := Lib.hid nO
            simp only [List.drop_succ_cons, List.drop_zero, Act.put, List.setIfInBounds_toArray, List.set_cons_zero, List.set_cons_succ]
            clear nC nO hne hcw hcw2 hclt el eC y0 y1 y2 y3 g0 g1 g2 g3
            go_wp2_with fail
            go_roundw
            case rel => exact ⟨k + 1, by omega, by go_num, HM.out.next HGOOD.out, NC.out, NO.out⟩
            case measure => simp [intOf]; omega
          · obtain rfl : k = l.length := by omega
            have HANY := Lib.hid (WtMid.all HM.out)
            by_cases hbn : b < 0
            · have HE := Lib.hid (ord_err (ordE_neg (l := l) HK.out HANY.out hbn) (by decide))
              go_wp2_with fail
              refine bodyPost_ret (v := .tuple #[.slice none 0 0, .agg #[.slice none 0 0, .int .i64 0, .slice none 0 0, .int .i64 0], .int .i64 2]) (by simp [results, Try.results27, go_sem, y0, y1, y2, y3, hlz]) rfl ?_
              rw [HE.out]
              exact ⟨_, _, rfl, SlAt.nil _ 1, zDr_v _, (by repeat (first | with_reducible exact Below.refl _ _ | with_reducible refine Below.drew ?_ | with_reducible refine below_drewN ?_ _ | with_reducible refine bal ?_ _ | with_reducible refine bset ?_ (by first | (simp; done) | (simp; omega)) _ | with_reducible refine bnext ?_ (by assumption) | with_reducible assumption))⟩
            obtain ⟨wm, rfl⟩ : ∃ wm : World, wm = wr := ⟨_, rfl⟩
            have HOE : Hid (ordE ⟨W, q, D, t⟩ l b = 0) := Lib.hid (ordE_ok HK.out HANY.out hbn)
            have HQ := Lib.hid (que_ok HANY.out)
            obtain ⟨Q, hQ⟩ : ∃ Q, Q = que l l.length := ⟨_, rfl⟩
            have hQL : qlen Q = l.length := by
              rw [hQ]
              refine que_sum l.length fun i hi => ?_
              have := HM.out i hi
              unfold wtBad at this
              simp at this
              omega
            rw [← hQ] at HQ
            have HC3 : Hid (∀ p, p < 3 → ChanAt wm (cof w1.heap.size p) l.length (Q p)) := Lib.hid (by rw [hQ]; exact HC2.out)
            have HQE := Lib.hid hQ
            have HQL := Lib.hid hQL
            have hcofS : ∀ p, p < 3 → cof w1.heap.size p < wm.heap.size ∧ w1.heap.size < cof w1.heap.size p := fun p hp => ⟨by unfold cof; omega, by unfold cof; omega⟩
            have HCS := Lib.hid hcofS
            clear hQ hQL HC2 hcofS y0 y1 y2 y3 g0 g1 g2 g3 el
            go_wp2_with fail
            obtain ⟨w3, hw3⟩ : ∃ w3, w3 = (wm.alloc (.cells #[.int .i64 0, .int .i64 0, .int .i64 0] 65)).alloc (.cells #[.int .i64 0, .int .i64 0, .int .i64 0] 65) := ⟨_, rfl⟩
            have kF : Blk w3 wm.heap.size 65 (ints (fk Q 0)).toArray := by rw [hw3]; exact (Blk.new _ _ _).alloc _
            have kH : Blk w3 (wm.heap.size + 1) 65 (ints (hkk l Q 0)).toArray := by rw [hw3]; exact Blk.new1 _ _ _ _
            have kC : ∀ p, p < 3 → ChanAt w3 (cof w1.heap.size p) l.length (Q p) := fun p hp => by rw [hw3]; exact ((HC3.out p hp).alloc _).alloc _
            have kB : Below wm.heap.size wm w3 := by rw [hw3]; exact bal (bal (Below.refl _ _) _) _
            have ksz : w3.heap.size = wm.heap.size + 2 := by rw [hw3]; simp
            rw [← hw3]
            have K3Z := Lib.hid (KZ2.out.below kB)
            have K3L := Lib.hid (KL2.out.below kB)
            have K3D := Lib.hid (KD2.out.below kB)
            have K3N := Lib.hid (KN2.out.below kB)
            have hB3 := bnext hBr kB
            have KF := Lib.hid kF
            have KH := Lib.hid kH
            have KC := Lib.hid kC
            have KSZ := Lib.hid ksz
            have hlw3 : wm.heap.size < w3.heap.size := by omega
            clear kF kH kC kB ksz hw3 KZ2 KL2 KD2 KN2 HC3 HOn HM
            go_loopw [74] (fun a wx => ∃ k : Nat, k ≤ 3 ∧ a = .int .i64 k ∧ Blk wx wm.heap.size 65 (ints (fk Q k)).toArray ∧ Blk wx (wm.heap.size + 1) 65 (ints (hkk l Q k)).toArray ∧ (∀ p, p < 3 → ChanAt wx (cof w1.heap.size p) l.length (if p < k then (Q p).tail else Q p)) ∧
              Only (fun j => j = wm.heap.size ∨ j = wm.heap.size + 1 ∨ ∃ p, p < 3 ∧ j = cof w1.heap.size p) w3 wx) (fun a _ => 3 - (intOf a).toNat)
            case atStart => exact ⟨0, by omega, rfl, KF.out, KH.out, fun p hp => by rw [if_neg (by omega)]; exact KC.out p hp, Only.refl _ _⟩
            case round =>
              obtain ⟨k, hk, rfl, kF, kH, kC, kO⟩ := hrel
              obtain ⟨wx, rfl⟩ : ∃ wx : World, wx = wr := ⟨_, rfl⟩
              have hkc := HCS.out
              have hsz := KSZ.out
              have hBx : Below w.heap.size w wx := hB3.trans (kO.to_below (fun j hj => by rcases hj with h | h | ⟨p, hp, h⟩; omega; omega; have := hkc p hp; omega) (by have := hB3.size; omega))
              have kn := K3N.out.only kO (by rintro (h | h | ⟨p, hp, h⟩); omega; omega; have := hkc p hp; omega)
              have kl := K3L.out.only kO (by rintro (h | h | ⟨p, hp, h⟩); omega; omega; have := hkc p hp; omega)
              have kd := K3D.out.only kO (by rintro (h | h | ⟨p, hp, h⟩); omega; omega; have := hkc p hp; omega)
              have kz := K3Z.out.only kO (by rintro (h | h | ⟨p, hp, h⟩); omega; omega; have := hkc p hp; omega)
              have el := kl.cell 0
              have hll := kl.lt
              have KF2 := Lib.hid kF
              have KH2 := Lib.hid kH
              have KC2 := Lib.hid kC
              have KO2 := Lib.hid kO
              have KN3 := Lib.hid kn
              have KD3 := Lib.hid kd
              have KZ3 := Lib.hid kz
              have KL3 := Lib.hid kl
              clear kF kH kC kO kn kd kz kl hkc
              by_cases hlt : k < 3
              · have hi : (k : Int) < 3 := by omega
                have hck := HCS.out k hlt
                have kc := KC2.out k hlt
                rw [if_neg (by omega)] at kc
                go_wp2_with fail
                refine (step_any l (by omega) w wx _ HWT.out hBx k hlt wm.heap.size (wm.heap.size + 1) w1.heap.size (w.heap.size + 1) (cof w1.heap.size) (fk Q k) (hkk l Q k) rfl rfl (Q k) l.length (fun i hi => (HQ.out.i k hlt i hi).1) KF2.out KH2.out KN3.out el hll kc (by omega) (by omega) (by omega) (by omega) (by omega) (by omega) (by omega) (by omega) (by omega) (by omega) (by omega) (by omega)).mono ?_
                rintro e wy ⟨⟨xx, rfl⟩, sF, sH, sC, sO⟩
                rw [fk_set _ _ hlt] at sF
                rw [hkk_set _ _ _ hlt] at sH
                have SF := Lib.hid sF
                have SH := Lib.hid sH
                have SC := Lib.hid sC
                have SO := Lib.hid sO
                clear sF sH sC sO kc el
                go_wp2_with fail
                go_roundw
                case rel =>
                  refine ⟨k + 1, by omega, by go_num, SF.out, SH.out, fun p hp => ?_, KO2.out.trans (SO.out.mono fun j hj => by rcases hj with h | h | h; exact .inl h; exact .inr (.inl h); exact .inr (.inr ⟨k, hlt, h⟩))⟩
                  have hcp := HCS.out p hp
                  by_cases e : p = k
                  · subst e
                    rw [if_pos (by omega)]
                    exact SC.out
                  · have := (KC2.out p hp).only SO.out (by rintro (h | h | h); omega; omega; unfold cof at h; omega)
                    by_cases h2 : p < k
                    · rw [if_pos h2] at this
                      rw [if_pos (by omega)]
                      exact this
                    · rw [if_neg h2] at this
                      rw [if_neg (by omega)]
                      exact this
                case measure => simp [intOf]; omega
              · obtain rfl : k = 3 := by omega
                rw [show (((3 : Nat)) : Int) = 3 from rfl] at *
                have kH : Blk wx (wm.heap.size + 1) 65 (ints (hds l Q)).toArray := KH2.out
                have kC : ∀ p, p < 3 → ChanAt wx (cof w1.heap.size p) l.length (Q p).tail := fun p hp => by have := KC2.out p hp; rwa [if_pos hp] at this
                obtain ⟨x0, x1, x2, x3⟩ := KD3.out.c4
                have hxs : wm.heap.size + 2 ≤ wx.heap.size := by have := KO2.out.size; omega
                have KH3 := Lib.hid kH
                have KC3 := Lib.hid kC
                clear kH kC KH2 KC2 el
                go_wp2_with fail
                refine (clone_any ⟨W, q, D, t⟩ _ _ (HD.out.below hBx) HL.out).mono ?_
                rintro e w4 ⟨B1, k1, B2, k2, rfl, oW, oD, ap, hb4⟩
                dsimp only at oW oD ap ⊢
                have hW3 : W.length = 3 := HO.out.w3
                have hD3 : D.length = 3 := HO.out.d3
                obtain ⟨gw, rfl, rW⟩ := row3_of oW hW3
                obtain ⟨gd, rfl, rD⟩ := row3_of oD hD3
                have hn1 : gw ≠ gd := fun e => ap gw rfl (by rw [e]; rfl)
                rw [hW3, hD3]
                have hz4 := hb4.size
                have hgw := rW.lt
                have hgd := rD.lt
                have d5 : DrAt (w4.alloc (.cells #[.slice (some ⟨gw, 0, none⟩) 3 k1, .int .i64 q, .slice (some ⟨gd, 0, none⟩) 3 k2, .int .i64 t] 24)) (wm.heap.size + 1 + 1) w4.heap.size gw k1 gd k2 W q D t := ⟨Blk.new _ _ _, (rW.alloc _).mono (by omega), (rD.alloc _).mono (by omega), hn1, by omega, by omega, by omega⟩
                have f5 := (KF2.out.below hb4).alloc (.cells #[.slice (some ⟨gw, 0, none⟩) 3 k1, .int .i64 q, .slice (some ⟨gd, 0, none⟩) 3 k2, .int .i64 t] 24)
                have h5 := (KH3.out.below hb4).alloc (.cells #[.slice (some ⟨gw, 0, none⟩) 3 k1, .int .i64 q, .slice (some ⟨gd, 0, none⟩) 3 k2, .int .i64 t] 24)
                have c5 : ∀ p, p < 3 → ChanAt (w4.alloc (.cells #[.slice (some ⟨gw, 0, none⟩) 3 k1, .int .i64 q, .slice (some ⟨gd, 0, none⟩) 3 k2, .int .i64 t] 24)) (cof w1.heap.size p) l.length (Q p).tail := fun p hp => ((KC3.out p hp).below hb4).alloc _
                have z5 := (KZ3.out.below hb4).alloc (.cells #[.slice (some ⟨gw, 0, none⟩) 3 k1, .int .i64 q, .slice (some ⟨gd, 0, none⟩) 3 k2, .int .i64 t] 24)
                have l5 := (KL3.out.below hb4).alloc (.cells #[.slice (some ⟨gw, 0, none⟩) 3 k1, .int .i64 q, .slice (some ⟨gd, 0, none⟩) 3 k2, .int .i64 t] 24)
                have n5 := (KN3.out.below hb4).alloc (.cells #[.slice (some ⟨gw, 0, none⟩) 3 k1, .int .i64 q, .slice (some ⟨gd, 0, none⟩) 3 k2, .int .i64 t] 24)
                have hB5 : Below w.heap.size w (w4.alloc (.cells #[.slice (some ⟨gw, 0, none⟩) 3 k1, .int .i64 q, .slice (some ⟨gd, 0, none⟩) 3 k2, .int .i64 t] 24)) := bal (bnext hBx hb4) _
                have hs5 : (w4.alloc (.cells #[.slice (some ⟨gw, 0, none⟩) 3 k1, .int .i64 q, .slice (some ⟨gd, 0, none⟩) 3 k2, .int .i64 t] 24)).heap.size = w4.heap.size + 1 := by simp
                have HF5 := Lib.hid f5
                have HH5 := Lib.hid h5
                have HC5 := Lib.hid c5
                have HZ5 := Lib.hid z5
                have HL5 := Lib.hid l5
                have HN5 := Lib.hid n5
                have HD5 := Lib.hid d5
                have HS5 := Lib.hid hs5
                have HB5 := Lib.hid hB5
                clear d5 f5 h5 c5 z5 l5 n5 hB5 hs5 oW oD ap rW rD hb4 x0 x1 x2 x3 hW3 hD3
                go_wp2_with fail
                generalize w4.alloc (.cells #[.slice (some ⟨gw, 0, none⟩) 3 k1, .int .i64 q, .slice (some ⟨gd, 0, none⟩) 3 k2, .int .i64 t] 24) = w5 at HD5 HF5 HH5 HC5 HZ5 HL5 HN5 HS5 HB5 ⊢
                obtain ⟨RES, hRES⟩ : ∃ RES, RES = ordL l l.length ⟨W, q, D, t⟩ Q b := ⟨_, rfl⟩
                have HRES := Lib.hid hRES
                have HORD : Hid (ord ⟨W, q, D, t⟩ l b = (RES.1, RES.2, 0)) := Lib.hid (by unfold ord; rw [if_neg (by rw [HOE.out]; decide), HRES.out, HQE.out])
                clear hRES
                go_loopg [2, 19] l.length (fun g s2 s19 wy => ∃ b' : Int, s2 = .int .i64 b' ∧ OMid w5 l w1.heap.size wm.heap.size (wm.heap.size + 1) w4.heap.size RES g b' s19 wy)
                case atStart =>
                  exact ⟨b, rfl, Q, ⟨W, q, D, t⟩, [], HQL.out, HQ.out, HO.out, by omega, hb2, by rw [HRES.out]; rfl, by simp, HF5.out, HH5.out, HC5.out, ⟨gw, k1, gd, k2, HD5.out, fun k e => by simp [Value.ownBlock] at e⟩, World.ownsRow_nil _ _ _ _, Only.refl _ _⟩
                case round =>
                  obtain ⟨b', rfl, Q', ⟨W', q', D', t'⟩, out, hql, hqo, hdo, hb0, hbm, hres, hol, kF, kH, kC, ⟨gw, cw, gd, cd, kD, kAp⟩, kOut, kO⟩ := hrel
                  obtain ⟨wy, rfl⟩ : ∃ wy : World, wy = wr := ⟨_, rfl⟩
                  dsimp only at kD
                  have hkc := HCS.out
                  have hs3 := KSZ.out
                  have hs5 := HS5.out
                  have hB5 := HB5.out
                  have hBy : Below w.heap.size w wy := hB5.trans (kO.to_below (fun j hj => by rcases hj with h | h | ⟨p, hp, h⟩ | h; omega; omega; have := hkc p hp; omega; omega) (by have := hB5.size; omega))
                  have kl := HL5.out.only kO (by rintro (h | h | ⟨p, hp, h⟩ | h); omega; omega; have := hkc p hp; omega; omega)
                  have kz := HZ5.out.only kO (by rintro (h | h | ⟨p, hp, h⟩ | h); omega; omega; have := hkc p hp; omega; omega)
                  have kn := HN5.out.only kO (by rintro (h | h | ⟨p, hp, h⟩ | h); omega; omega; have := hkc p hp; omega; omega)
                  obtain ⟨h0, h1, h2, hHe⟩ := three (show (hds l Q').length = 3 from rfl)
                  rw [hHe] at kH
                  obtain ⟨e0, e1, e2⟩ := kH.c3
                  obtain ⟨a0, a1, a2, a3⟩ := kD.blk.c4
                  have el := kl.cell 0
                  have hsy := kO.size
                  have hll := kl.lt
                  have hlz := kz.lt
                  have hlH := kH.lt
                  have hlF := kF.lt
                  have hlD := kD.blk.lt
                  have hgw := kD.rW.lt
                  have hgd := kD.rD.lt
                  have KF4 := Lib.hid kF
                  have KH4 := Lib.hid kH
                  have KC4 := Lib.hid kC
                  have KD4 := Lib.hid kD
                  have KA4 := Lib.hid kAp
                  have KO4 := Lib.hid kO
                  have KU4 := Lib.hid kOut
                  have KL4 := Lib.hid kl
                  have KZ4 := Lib.hid kz
                  have KN4 := Lib.hid kn
                  have HQL4 := Lib.hid hql
                  have HQO4 := Lib.hid hqo
                  have HDO4 := Lib.hid hdo
                  have HRS4 := Lib.hid hres
                  have HHE := Lib.hid hHe
                  obtain ⟨Ao, co, rfl⟩ := kOut.form
                  clear kF kH kC kD kAp kO kOut kl kz kn hql hqo hdo hres hHe hkc hs3 hs5 hB5
                  by_cases hzz : h0 = 0 ∧ h1 = 0 ∧ h2 = 0
                  · obtain ⟨rfl, rfl, rfl⟩ := hzz
                    have HFIN : Hid (RES = (out, ⟨W', q', D', t'⟩)) := Lib.hid (by rw [← HRS4.out, ordL_zero HHE.out, List.append_nil])
                    have hs5 := HS5.out
                    have hs3 := KSZ.out
                    go_upto_region 36 with fail
                    obtain ⟨y0, y1, y2, y3⟩ := KZ4.out.c4
                    obtain ⟨g0, g1, g2, g3⟩ := KZ4.out.f4
                    have hne1 : ¬ w4.heap.size = w.heap.size + 1 + 1 := by omega
                    have hne2 : ¬ w.heap.size + 1 + 1 = w4.heap.size := by omega
                    go_region
                    all_goals
                      go_wp2_with fail
                      refine bodyPost_ret (v := .tuple #[.slice Ao (nums out).length co, .agg #[.slice (some ⟨gw, 0, none⟩) 3 cw, .int .i64 q', .slice (some ⟨gd, 0, none⟩) 3 cd, .int .i64 t'], .int .i64 0]) (by simp [results, Try.results27, go_sem, y0, y1, y2, y3]) rfl ?_
                      rw [HORD.out, HFIN.out]
                      refine ⟨_, _, rfl, ?_, ⟨_, _, rfl, ?_, ?_⟩, (by repeat (first | with_reducible exact Below.refl _ _ | with_reducible refine Below.drew ?_ | with_reducible refine below_drewN ?_ _ | with_reducible refine bal ?_ _ | with_reducible refine bset ?_ (by first | (simp; done) | (simp; omega)) _ | with_reducible refine bnext ?_ (by assumption) | with_reducible assumption))⟩
                      · refine OwnI.at (base := w5.heap.size) ?_
                        repeat (first | with_reducible exact KU4.out | with_reducible refine OwnI.drew ?_ | with_reducible refine OwnI.low ?_ (by show w.heap.size + 1 + 1 < w5.heap.size; omega) _)
                      · refine Row3.at (B := wm.heap.size + 1 + 1) (c := cw) ?_
                        dsimp only
                        repeat (first | with_reducible exact KD4.out.rW | with_reducible refine Row3.drew ?_ | with_reducible refine Row3.far ?_ (by show gw ≠ w.heap.size + 1 + 1; omega) _)
                      · refine Row3.at (B := wm.heap.size + 1 + 1) (c := cd) ?_
                        dsimp only
                        repeat (first | with_reducible exact KD4.out.rD | with_reducible refine Row3.drew ?_ | with_reducible refine Row3.far ?_ (by show gd ≠ w.heap.size + 1 + 1; omega) _)
                  · have hcz : (h0 == 0 && h1 == 0 && h2 == 0) = false := by
                      rw [Bool.eq_false_iff]
                      intro h
                      simp at h
                      exact hzz ⟨h.1.1, h.1.2, h.2⟩
                    have hz' : hds l Q' ≠ [0, 0, 0] := by
                      rw [HHE.out]
                      intro e
                      simp at e
                      exact hzz ⟨e.1, e.2.1, e.2.2⟩
                    have HZ' := Lib.hid hz'
                    obtain ⟨tn, rfl⟩ : ∃ tn : Nat, t' = tn := ⟨t'.toNat, by have := HDO4.out.t0; dsimp only at this; omega⟩
                    obtain ⟨hp3, i, r, hQp⟩ := served_some HDO4.out HQO4.out hz'
                    have HHO := hds_hok HQO4.out hz'
                    obtain ⟨hnn, hsv⟩ := turns_serve HDO4.out HHO
                    obtain ⟨E1, pn, hE⟩ : ∃ E1 pn, ends ⟨W', q', D', (tn : Int)⟩ (hds l Q') = (E1, pn) := ⟨_, _, rfl⟩
                    rw [hE] at hp3 hQp
                    dsimp only at hp3 hQp
                    obtain ⟨N, hN⟩ : ∃ N, N = turns ⟨W', q', D', (tn : Int)⟩ (hds l Q') := ⟨_, rfl⟩
                    have hE2 : pas W' q' (hds l Q') (D', tn) N = (E1, pn) := by rw [hN]; exact hE
                    rw [← hN] at hnn hsv
                    have HE2 := Lib.hid hE2
                    have HEE := Lib.hid hE
                    have HNN := Lib.hid hnn
                    have HSV := Lib.hid hsv
                    have HQP := Lib.hid hQp
                    have HHOK := Lib.hid HHO
                    have HL6 : Hid (lt20 ⟨W', q', D', (tn : Int)⟩) := Lib.hid ⟨by have := HDO4.out.w3; dsimp only at this; show W'.length ≤ 100000; omega, by have := HDO4.out.d3; dsimp only at this; show D'.length ≤ 100000; omega⟩
                    have hpb := HHO.b _ (at0_mem (l := hds l Q') (i := pn) (by show pn < 3; exact hp3))
                    have hpi : (pn : Int) < 3 := by omega
                    have hpi0 : (0 : Int) ≤ pn := by omega
                    clear hz' hzz hE hN hE2 hnn hsv hQp HHO
                    go_wp2_with fail
                    refine (clone_any ⟨W', q', D', (tn : Int)⟩ _ _ ⟨_, _, rfl, KD4.out.rW.at, KD4.out.rD.at⟩ HL6.out).mono ?_
                    rintro e w6 ⟨C1, m1, C2, m2, rfl, oW, oD, ap, hb6⟩
                    dsimp only at oW oD ap ⊢
                    have hW3 : W'.length = 3 := HDO4.out.w3
                    have hD3 : D'.length = 3 := HDO4.out.d3
                    obtain ⟨gw2, rfl, rW⟩ := row3_of oW hW3
                    obtain ⟨gd2, rfl, rD⟩ := row3_of oD hD3
                    have hn1 : gw2 ≠ gd2 := fun e => ap gw2 rfl (by rw [e]; rfl)
                    rw [hW3, hD3]
                    have hgw2 := rW.lt
                    have hgd2 := rD.lt
                    have hz6 := hb6.size
                    have da : DrAt (w6.alloc (.cells #[.slice (some ⟨gw2, 0, none⟩) 3 m1, .int .i64 q', .slice (some ⟨gd2, 0, none⟩) 3 m2, .int .i64 (tn : Int)] 24)) wy.heap.size w6.heap.size gw2 m1 gd2 m2 W' q' D' tn := ⟨Blk.new _ _ _, rW.alloc _, rD.alloc _, hn1, by omega, by omega, hz6⟩
                    have hb7 : Below wy.heap.size wy (w6.alloc (.cells #[.slice (some ⟨gw2, 0, none⟩) 3 m1, .int .i64 q', .slice (some ⟨gd2, 0, none⟩) 3 m2, .int .i64 (tn : Int)] 24)) := bal hb6 _
                    have HDA := Lib.hid da
                    have hs7 : (w6.alloc (.cells #[.slice (some ⟨gw2, 0, none⟩) 3 m1, .int .i64 q', .slice (some ⟨gd2, 0, none⟩) 3 m2, .int .i64 (tn : Int)] 24)).heap.size = w6.heap.size + 1 := by simp
                    clear e0 e1 e2
                    have kh7 := KH4.out.below hb7
                    obtain ⟨e0, e1, e2⟩ := kh7.c3
                    clear oW oD ap rW rD da hW3 hD3 hb6 kh7
                    go_wp2_with fail
                    refine (serve_any W' q' D' tn h0 h1 h2 N HDO4.out.w HDO4.out.q0 HDO4.out.q1 (ok_sok HDO4.out) (by have := HHOK.out.b; rw [HHE.out] at this; exact this) HNN.out (by have := HSV.out; rw [HHE.out] at this; exact this) wy.heap.size w6.heap.size gw2 m1 gd2 m2 _ (by omega) HDA.out).mono ?_
                    rintro e w8 ⟨rfl, hD8, hb8⟩
                    have hE3 := HE2.out
                    rw [HHE.out] at hE3
                    rw [hE3] at hD8 ⊢
                    dsimp only at hD8 ⊢
                    have hby8 : Below wy.heap.size wy w8 := hb7.trans hb8
                    have hB8 : Below w.heap.size w w8 := bnext hBy hby8
                    have kh8 := KH4.out.below hby8
                    have kf8 := KF4.out.below hby8
                    have eH := arr3 kh8 rfl pn hp3
                    have eF := arr3 kf8 rfl pn hp3
                    rw [fk_at hp3, HQP.out] at eF
                    have eF' : w8.cell? ⟨wm.heap.size, pn, none⟩ = some (.int .i64 (i : Int)) := eF
                    have hpb' : 0 ≤ at0 [h0, h1, h2] pn ∧ at0 [h0, h1, h2] pn ≤ 1200 := by rw [← HHE.out]; exact hpb
                    have hs8 := hby8.size
                    have hs78 := hb8.size
                    have KD8 := Lib.hid hD8
                    have KH8 := Lib.hid kh8
                    have KF8 := Lib.hid kf8
                    have HE3 := Lib.hid hE3
                    clear hD8 kh8 kf8 hE3 eF e0 e1 e2 a0 a1 a2 a3 el HDA hpb
                    by_cases hgt : b' < at0 [h0, h1, h2] pn
                    · have hgg : at0 [h0, h1, h2] pn > b' := hgt
                      have HFIN : Hid (RES = (out, ⟨W', q', D', (tn : Int)⟩)) := Lib.hid (by rw [← HRS4.out, ordL_stop (by rw [HEE.out, HHE.out]; exact hgt), List.append_nil])
                      have hs5 := HS5.out
                      have hs3 := KSZ.out
                      have KD4' := Lib.hid (KD4.out.below hby8)
                      have KU4' := Lib.hid (KU4.out.below hby8)
                      have KZ4' := Lib.hid (KZ4.out.below hby8)
                      clear KD4 KU4 KZ4
                      have KD4 := KD4'
                      have KU4 := KU4'
                      have KZ4 := KZ4'
                      obtain ⟨a0, a1, a2, a3⟩ := KD4.out.blk.c4
                      go_upto_region 36 with fail
                      obtain ⟨y0, y1, y2, y3⟩ := KZ4.out.c4
                      obtain ⟨g0, g1, g2, g3⟩ := KZ4.out.f4
                      have hne1 : ¬ w4.heap.size = w.heap.size + 1 + 1 := by omega
                      have hne2 : ¬ w.heap.size + 1 + 1 = w4.heap.size := by omega
                      go_region
                      all_goals
                        go_wp2_with fail
                        refine bodyPost_ret (v := .tuple #[.slice Ao (nums out).length co, .agg #[.slice (some ⟨gw, 0, none⟩) 3 cw, .int .i64 q', .slice (some ⟨gd, 0, none⟩) 3 cd, .int .i64 (tn : Int)], .int .i64 0]) (by simp [results, Try.results27, go_sem, y0, y1, y2, y3]) rfl ?_
                        rw [HORD.out, HFIN.out]
                        refine ⟨_, _, rfl, ?_, ⟨_, _, rfl, ?_, ?_⟩, (by repeat (first | with_reducible exact Below.refl _ _ | with_reducible refine Below.drew ?_ | with_reducible refine below_drewN ?_ _ | with_reducible refine bal ?_ _ | with_reducible refine bset ?_ (by first | (simp; done) | (simp; omega)) _ | with_reducible refine bnext ?_ (by assumption) | with_reducible assumption))⟩
                        · refine OwnI.at (base := w5.heap.size) ?_
                          repeat (first | with_reducible exact KU4.out | with_reducible refine OwnI.drew ?_ | with_reducible refine OwnI.low ?_ (by show w.heap.size + 1 + 1 < w5.heap.size; omega) _)
                        · refine Row3.at (B := wm.heap.size + 1 + 1) (c := cw) ?_
                          dsimp only
                          repeat (first | with_reducible exact KD4.out.rW | with_reducible refine Row3.drew ?_ | with_reducible refine Row3.far ?_ (by show gw ≠ w.heap.size + 1 + 1; omega) _)
                        · refine Row3.at (B := wm.heap.size + 1 + 1) (c := cd) ?_
                          dsimp only
                          repeat (first | with_reducible exact KD4.out.rD | with_reducible refine Row3.drew ?_ | with_reducible refine Row3.far ?_ (by show gd ≠ w.heap.size + 1 + 1; omega) _)
                    · have hng : ¬ at0 [h0, h1, h2] pn > b' := hgt
                      have WS : IntKind.i64.wrap (b' - at0 [h0, h1, h2] pn) = b' - at0 [h0, h1, h2] pn := IntWalk.i64_in _ (by omega)
                      have hob : ∀ k, (Value.slice Ao (nums out).length co).ownBlock = some k → w5.heap.size ≤ k ∧ k < wy.heap.size := World.ownsRow.lt KU4.out
                      have hr1 : ∀ g n c, wy.heap.size ≤ g → (Value.slice (some ⟨g, 0, none⟩) n c).ownBlock ≠ (Value.slice Ao (nums out).length co).ownBlock := fun g n c hg e => by have := hob g e.symm; omega
                      have HOB := Lib.hid hob
                      have hs5 := HS5.out
                      have hs3 := KSZ.out
                      have hs58 : w5.heap.size ≤ w8.heap.size := by omega
                      have hgk1 : 1 ≤ gk := by
                        have := qlen_pop hp3 HQP.out
                        have := HQL4.out
                        omega
                      have KU8 := Lib.hid (KU4.out.below hby8)
                      have KNOW8 := Lib.hid (KD4.out.blk.below hby8)
                      have NL : Hid ((nums out).length = out.length) := Lib.hid (by simp [nums])
                      go_wp2_with (first | (at_builtin; refine wpList_app1n (f := one) rfl _ _ 22 rfl w5.heap.size 3 1 8 infoI rfl (by decide) Try.underlying22 one1 one_one w8 w w.heap.size (i : Int) (nums out) _ (by rfl) (by rfl) KU8.out hB8 HB5.out.size hs58 (by rw [NL.out]; omega) (by rw [NL.out]; unfold maxLen; omega) ?_; intro A9 c9 w9 hown9 hB9 hg9 hnew9; have kf9 := blk_grown (KF8.out.alloc _) hg9 (fun k e => by have := hob k e; omega); have kh9 := blk_grown (KH8.out.alloc _) hg9 (fun k e => by have := hob k e; omega); have kd9 := blk_grown (KD8.out.blk.alloc _) hg9 (fun k e => by have := hob k e; omega); have kn9 := blk_grown (KNOW8.out.alloc _) hg9 (fun k e => by have := hob k e; omega); have rw9 : Row3 w9 wy.heap.size gw2 m1 W' := World.ownsRow.kept (KD8.out.rW.alloc _) hg9 (.inr (hr1 gw2 3 m1 hgw2.1)); have rd9 : Row3 w9 wy.heap.size gd2 m2 (paid [h0, h1, h2] (E1, pn)) := World.ownsRow.kept (KD8.out.rD.alloc _) hg9 (.inr (hr1 gd2 3 m2 hgd2.1)); have KF9 := Lib.hid kf9; have KH9 := Lib.hid kh9; have KD9 := Lib.hid kd9; have KN9 := Lib.hid kn9; have RW9 := Lib.hid rw9; have RD9 := Lib.hid rd9; have HG9 := Lib.hid hg9; have HNEW := Lib.hid hnew9; have HOWN := Lib.hid hown9; obtain ⟨a0, a1, a2, a3⟩ := kd9.c4; obtain ⟨x0, x1, x2, x3⟩ := kn9.c4; obtain ⟨f0, f1, f2, f3⟩ := kn9.f4; have hs89 := hg9.size; rw [World.size_alloc] at hs89; have hl9a := kd9.lt; clear kf9 kh9 kd9 kn9 rw9 rd9 hg9 hnew9 hown9 eH eF'))
                      have hkc := HCS.out
                      have kf10 : Blk ((((w9.setCell ⟨w4.heap.size, 0, none⟩ (.slice (some ⟨gw2, 0, none⟩) 3 m1)).setCell ⟨w4.heap.size, 1, none⟩ (.int .i64 q')).setCell ⟨w4.heap.size, 2, none⟩ (.slice (some ⟨gd2, 0, none⟩) 3 m2)).setCell ⟨w4.heap.size, 3, none⟩ (.int .i64 (pn : Int))) wm.heap.size 65 (ints (fk Q' 3)).toArray := by
                        repeat (first | exact KF9.out | with_reducible refine Blk.far ?_ (by show wm.heap.size ≠ w4.heap.size; omega) _)
                      have kh10 : Blk ((((w9.setCell ⟨w4.heap.size, 0, none⟩ (.slice (some ⟨gw2, 0, none⟩) 3 m1)).setCell ⟨w4.heap.size, 1, none⟩ (.int .i64 q')).setCell ⟨w4.heap.size, 2, none⟩ (.slice (some ⟨gd2, 0, none⟩) 3 m2)).setCell ⟨w4.heap.size, 3, none⟩ (.int .i64 (pn : Int))) (wm.heap.size + 1) 65 (ints [h0, h1, h2]).toArray := by
                        repeat (first | exact KH9.out | with_reducible refine Blk.far ?_ (by show wm.heap.size + 1 ≠ w4.heap.size; omega) _)
                      have kb10 : Blk ((((w9.setCell ⟨w4.heap.size, 0, none⟩ (.slice (some ⟨gw2, 0, none⟩) 3 m1)).setCell ⟨w4.heap.size, 1, none⟩ (.int .i64 q')).setCell ⟨w4.heap.size, 2, none⟩ (.slice (some ⟨gd2, 0, none⟩) 3 m2)).setCell ⟨w4.heap.size, 3, none⟩ (.int .i64 (pn : Int))) w4.heap.size 24 #[.slice (some ⟨gw2, 0, none⟩) 3 m1, .int .i64 q', .slice (some ⟨gd2, 0, none⟩) 3 m2, .int .i64 (pn : Int)] := (((KN9.out.set 0 _).set 1 _).set 2 _).set 3 _
                      have rw10 : Row3 ((((w9.setCell ⟨w4.heap.size, 0, none⟩ (.slice (some ⟨gw2, 0, none⟩) 3 m1)).setCell ⟨w4.heap.size, 1, none⟩ (.int .i64 q')).setCell ⟨w4.heap.size, 2, none⟩ (.slice (some ⟨gd2, 0, none⟩) 3 m2)).setCell ⟨w4.heap.size, 3, none⟩ (.int .i64 (pn : Int))) wy.heap.size gw2 m1 W' := by
                        repeat (first | exact RW9.out | with_reducible refine Row3.far ?_ (by show gw2 ≠ w4.heap.size; omega) _)
                      have rd10 : Row3 ((((w9.setCell ⟨w4.heap.size, 0, none⟩ (.slice (some ⟨gw2, 0, none⟩) 3 m1)).setCell ⟨w4.heap.size, 1, none⟩ (.int .i64 q')).setCell ⟨w4.heap.size, 2, none⟩ (.slice (some ⟨gd2, 0, none⟩) 3 m2)).setCell ⟨w4.heap.size, 3, none⟩ (.int .i64 (pn : Int))) wy.heap.size gd2 m2 (paid [h0, h1, h2] (E1, pn)) := by
                        repeat (first | exact RD9.out | with_reducible refine Row3.far ?_ (by show gd2 ≠ w4.heap.size; omega) _)
                      have kl10 : Blk ((((w9.setCell ⟨w4.heap.size, 0, none⟩ (.slice (some ⟨gw2, 0, none⟩) 3 m1)).setCell ⟨w4.heap.size, 1, none⟩ (.int .i64 q')).setCell ⟨w4.heap.size, 2, none⟩ (.slice (some ⟨gd2, 0, none⟩) 3 m2)).setCell ⟨w4.heap.size, 3, none⟩ (.int .i64 (pn : Int))) (w.heap.size + 1) 42 #[.slice Al l.length cl] := by
                        have := blk_grown ((KL4.out.below hby8).alloc (.cells (one (i : Int)).toArray 3)) HG9.out (fun k e => by have := HOB.out k e; omega)
                        repeat (first | exact this | with_reducible refine Blk.far ?_ (by show w.heap.size + 1 ≠ w4.heap.size; omega) _)
                      have kz10 : Blk ((((w9.setCell ⟨w4.heap.size, 0, none⟩ (.slice (some ⟨gw2, 0, none⟩) 3 m1)).setCell ⟨w4.heap.size, 1, none⟩ (.int .i64 q')).setCell ⟨w4.heap.size, 2, none⟩ (.slice (some ⟨gd2, 0, none⟩) 3 m2)).setCell ⟨w4.heap.size, 3, none⟩ (.int .i64 (pn : Int))) w1.heap.size 70 (chs (cof w1.heap.size)) := by
                        have := blk_grown ((KN4.out.below hby8).alloc (.cells (one (i : Int)).toArray 3)) HG9.out (fun k e => by have := HOB.out k e; omega)
                        repeat (first | exact this | with_reducible refine Blk.far ?_ (by show w1.heap.size ≠ w4.heap.size; omega) _)
                      have kc10 : ∀ p, p < 3 → ChanAt ((((w9.setCell ⟨w4.heap.size, 0, none⟩ (.slice (some ⟨gw2, 0, none⟩) 3 m1)).setCell ⟨w4.heap.size, 1, none⟩ (.int .i64 q')).setCell ⟨w4.heap.size, 2, none⟩ (.slice (some ⟨gd2, 0, none⟩) 3 m2)).setCell ⟨w4.heap.size, 3, none⟩ (.int .i64 (pn : Int))) (cof w1.heap.size p) l.length (Q' p).tail := fun p hp => by
                        have hcp := hkc p hp
                        have := (((KC4.out p hp).below hby8).alloc (.cells (one (i : Int)).toArray 3)).grown HG9.out (fun k e => by have := HOB.out k e; omega)
                        repeat (first | exact this | with_reducible refine ChanAt.far ?_ (by show cof w1.heap.size p ≠ w4.heap.size; omega) _)
                      have ko10 : Only (fun j => j = wm.heap.size ∨ j = wm.heap.size + 1 ∨ (∃ p, p < 3 ∧ j = cof w1.heap.size p) ∨ j = w4.heap.size) w5 ((((w9.setCell ⟨w4.heap.size, 0, none⟩ (.slice (some ⟨gw2, 0, none⟩) 3 m1)).setCell ⟨w4.heap.size, 1, none⟩ (.int .i64 q')).setCell ⟨w4.heap.size, 2, none⟩ (.slice (some ⟨gd2, 0, none⟩) 3 m2)).setCell ⟨w4.heap.size, 3, none⟩ (.int .i64 (pn : Int))) := by
                        have := ((KO4.out.below hby8).alloc (.cells (one (i : Int)).toArray 3)).grown HG9.out (fun k e => .inr (HOB.out k e).1)
                        repeat (first | exact this | with_reducible refine Only.set ?_ (.inl (.inr (.inr (.inr rfl)))) _)
                      have ku10 : OwnI ((((w9.setCell ⟨w4.heap.size, 0, none⟩ (.slice (some ⟨gw2, 0, none⟩) 3 m1)).setCell ⟨w4.heap.size, 1, none⟩ (.int .i64 q')).setCell ⟨w4.heap.size, 2, none⟩ (.slice (some ⟨gd2, 0, none⟩) 3 m2)).setCell ⟨w4.heap.size, 3, none⟩ (.int .i64 (pn : Int))) w5.heap.size (.slice A9 ((nums out).length + 1) c9) (nums (out ++ [i])) := by
                        have e1 : nums (out ++ [i]) = nums out ++ [(i : Int)] := by simp [nums]
                        rw [e1]
                        have := HOWN.out
                        repeat (first | exact this | with_reducible refine OwnI.low ?_ (by show w4.heap.size < w5.heap.size; omega) _)
                      have hB10 : Below w.heap.size w ((((w9.setCell ⟨w4.heap.size, 0, none⟩ (.slice (some ⟨gw2, 0, none⟩) 3 m1)).setCell ⟨w4.heap.size, 1, none⟩ (.int .i64 q')).setCell ⟨w4.heap.size, 2, none⟩ (.slice (some ⟨gd2, 0, none⟩) 3 m2)).setCell ⟨w4.heap.size, 3, none⟩ (.int .i64 (pn : Int))) := (by repeat (first | with_reducible exact Below.refl _ _ | with_reducible refine Below.drew ?_ | with_reducible refine below_drewN ?_ _ | with_reducible refine bal ?_ _ | with_reducible refine bset ?_ (by first | (simp; done) | (simp; omega)) _ | with_reducible refine bnext ?_ (by assumption) | with_reducible assumption))
                      generalize ((((w9.setCell ⟨w4.heap.size, 0, none⟩ (.slice (some ⟨gw2, 0, none⟩) 3 m1)).setCell ⟨w4.heap.size, 1, none⟩ (.int .i64 q')).setCell ⟨w4.heap.size, 2, none⟩ (.slice (some ⟨gd2, 0, none⟩) 3 m2)).setCell ⟨w4.heap.size, 3, none⟩ (.int .i64 (pn : Int))) = w10 at kf10 kh10 kb10 rw10 rd10 kl10 kz10 kc10 ko10 ku10 hB10 ⊢
                      have el := kl10.cell 0
                      have hll10 := kl10.lt
                      have hcpn := hkc pn hp3
                      refine (step_any l (by omega) w w10 _ HWT.out hB10 pn hp3 wm.heap.size (wm.heap.size + 1) w1.heap.size (w.heap.size + 1) (cof w1.heap.size) (fk Q' 3) [h0, h1, h2] rfl rfl (Q' pn).tail l.length (fun j hj => (HQO4.out.i pn hp3 j (List.mem_of_mem_tail hj)).1) kf10 kh10 kz10 el hll10 (kc10 pn hp3) (by omega) (by omega) (by omega) (by omega) (by omega) (by omega) (by omega) (by omega) (by omega) (by omega) (by omega) (by omega)).mono ?_
                      rintro e w11 ⟨⟨xx, rfl⟩, sF, sH, sC, sO⟩
                      rw [fk_pop hp3] at sF
                      rw [← HHE.out, hds_pop hp3] at sH
                      have hgl := rw10.lt
                      have hgl2 := rd10.lt
                      have kb11 := kb10.only sO (by rintro (h | h | h); omega; omega; omega)
                      have rw11 : Row3 w11 wy.heap.size gw2 m1 W' := own_only rw10 sO (fun g e => by simp [Value.ownBlock] at e; subst e; rintro (h | h | h); omega; omega; omega)
                      have rd11 : Row3 w11 wy.heap.size gd2 m2 (paid [h0, h1, h2] (E1, pn)) := own_only rd10 sO (fun g e => by simp [Value.ownBlock] at e; subst e; rintro (h | h | h); omega; omega; omega)
                      have ku11 : OwnI w11 w5.heap.size (.slice A9 ((nums out).length + 1) c9) (nums (out ++ [i])) := own_only ku10 sO (fun g e => by have := (World.ownsRow.lt ku10 g e).1; rintro (h | h | h); omega; omega; omega)
                      have kc11 : ∀ p, p < 3 → ChanAt w11 (cof w1.heap.size p) l.length (pop Q' pn p).tail := fun p hp => by
                        have hcp := hkc p hp
                        unfold pop
                        by_cases e : p = pn
                        · rw [if_pos e]; subst e; exact sC
                        · rw [if_neg e]
                          exact (kc10 p hp).only sO (by rintro (h | h | h); omega; omega; unfold cof at h; omega)
                      have ko11 := ko10.trans (sO.mono (T := fun j => j = wm.heap.size ∨ j = wm.heap.size + 1 ∨ (∃ p, p < 3 ∧ j = cof w1.heap.size p) ∨ j = w4.heap.size) fun j hj => by rcases hj with h | h | h; exact .inl h; exact .inr (.inl h); exact .inr (.inr (.inl ⟨pn, hp3, h⟩)))
                      have SF := Lib.hid sF
                      have SH := Lib.hid sH
                      have KB11 := Lib.hid kb11
                      have RW11 := Lib.hid rw11
                      have RD11 := Lib.hid rd11
                      have KU11 := Lib.hid ku11
                      have KC11 := Lib.hid kc11
                      have KO11 := Lib.hid ko11
                      clear sF sH kb11 rw11 rd11 ku11 kc11 ko11 sC sO kf10 kh10 kb10 rw10 rd10 kl10 kz10 kc10 ko10 ku10 el a0 a1 a2 a3 x0 x1 x2 x3 f0 f1 f2 f3
                      go_wp2_with fail
                      go_roundg (gk - 1)
                      case measure => omega
                      case rel =>
                        have hss : srv ⟨W', q', D', (tn : Int)⟩ (hds l Q') = ⟨W', q', paid [h0, h1, h2] (E1, pn), (pn : Int)⟩ := by
                          unfold srv
                          rw [HEE.out, HHE.out]
                        have hok := srv_ok HDO4.out HHOK.out
                        rw [hss] at hok
                        have hql : qlen (pop Q' pn) = gk - 1 := by
                          have := qlen_pop hp3 HQP.out
                          have := HQL4.out
                          omega
                        refine ⟨b' - at0 [h0, h1, h2] pn, rfl, pop Q' pn, ⟨W', q', paid [h0, h1, h2] (E1, pn), (pn : Int)⟩, out ++ [i], hql, HQO4.out.pop pn, hok, by omega, by omega, ?_, by rw [List.length_append, List.length_singleton]; omega, SF.out, SH.out, KC11.out, ⟨gw2, m1, gd2, m2, ⟨KB11.out, RW11.out.mono (by omega), RD11.out.mono (by omega), hn1, by omega, by omega, by omega⟩, ?_⟩, KU11.out, KO11.out⟩
                        · have hR1 := HRS4.out
                          rw [show gk = (gk - 1) + 1 by omega, ordL_go HZ'.out (by rw [HEE.out, HHE.out]; dsimp only; omega) (gk - 1) (i := i) (r := r) (by rw [HEE.out]; exact HQP.out)] at hR1
                          rw [HEE.out, hss, HHE.out] at hR1
                          rw [← hR1, List.append_assoc]
                          rfl
                        · intro k e
                          rcases HNEW.out k e with h | h
                          · have := HOB.out k h
                            constructor <;> omega
                          · constructor <;> omega
  · have t1 : (chk ⟨W, q, D, t⟩ != 0) = true := by simpa using hk
    have HE := Lib.hid (ord_err (ordE_chk (l := l) (b := b) hk) hk)
    clear hk
    go_enter Try.func27, Try.ntmps27
    go_wp2_with fail
    refine (Check_any ⟨W, q, D, t⟩ _ _ (((HD.out.alloc _).alloc _).alloc _)).mono ?_
    rintro e w1 ⟨rfl, hb1⟩
    have kz := (Blk.new2 w (.cells #[.slice A W.length c, .int .i64 q, .slice A' D.length c', .int .i64 t] 24) (.cells #[.slice Al l.length cl] 42) 24 #[.slice none 0 0, .int .i64 0, .slice none 0 0, .int .i64 0]).below hb1
    have hB1 : Below w.heap.size w w1 := bnext (bal (bal (bal (Below.refl w.heap.size w) _) _) _) hb1
    have hs1 : w.heap.size + 1 + 1 < w1.heap.size := kz.lt
    obtain ⟨y0, y1, y2, y3⟩ := kz.c4
    obtain ⟨g0, g1, g2, g3⟩ := kz.f4
    clear kz hb1
    go_wp2_with fail
    refine bodyPost_ret (v := .tuple #[.slice none 0 0, .agg #[.slice none 0 0, .int .i64 0, .slice none 0 0, .int .i64 0], .int .i64 (chk ⟨W, q, D, t⟩)]) (by simp [results, Try.results27, go_sem, y0, y1, y2, y3]) rfl ?_
    rw [HE.out]
    exact ⟨_, _, rfl, SlAt.nil _ 1, zDr_v _, (by repeat (first | with_reducible exact Below.refl _ _ | with_reducible refine Below.drew ?_ | with_reducible refine below_drewN ?_ _ | with_reducible refine bal ?_ _ | with_reducible refine bset ?_ (by first | (simp; done) | (simp; omega)) _ | with_reducible refine bnext ?_ (by assumption) | with_reducible assumption))⟩
end Go.Proofs.Ythkfdfkjenhjmaa
