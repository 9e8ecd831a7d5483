/- Contracts: cutting a message (the reference). -/
import Derived.Test.YtcifngefclgefaaO
namespace Go.Proofs.Ytcifngefclgefaa
open Go.RowKit
set_option linter.unusedVariables false
set_option linter.unusedSimpArgs false

theorem bn_one : ∀ x : Bn, ∀ u ∈ Bn.cells x, u.oneCell' = true := by intro x u hu; simp [Bn.cells] at hu; rcases hu with rfl | rfl | rfl | rfl | rfl | rfl | rfl | rfl | rfl <;> rfl
/-- every fragment has the first one's error -/
theorem fr_err (h : Bn) (m : ByteArray) (s j : Nat) (hs : 1 ≤ s ∧ s ≤ 1000) (hM : m.size ≤ 20000) (hj : j * s < m.size) : bE (frOf h m s j j) = bE (frOf h m s 0 0) := by
  have hz : ∀ i, i * s < m.size → (frOf h m s i i).data.size = min (i * s + s) m.size - i * s := fun i hi => by
    show (m.extract _ _).size = _
    rw [ByteArray.size_extract]; omega
  have ok : ∀ i, i * s < m.size → bE (frOf h m s i i) = if (1 ≤ h.node ∧ h.node ≤ 16 ∧ h.seq ≤ 1099511627776) ∧ Fok (frOf h m s 0 0) then 0 else 2 := fun i hi => by
    have e := hz i hi
    have hid : IdOk (frOf h m s i i).node (frOf h m s i i).seq (frOf h m s i i).off ↔ (1 ≤ h.node ∧ h.node ≤ 16 ∧ h.seq ≤ 1099511627776) := by
      show IdOk h.node h.seq ((i * s : Nat) : Int) ↔ _
      unfold IdOk
      omega
    have hF : Fok (frOf h m s i i) ↔ Fok (frOf h m s 0 0) := Iff.rfl
    by_cases c : (1 ≤ h.node ∧ h.node ≤ 16 ∧ h.seq ≤ 1099511627776)
    · by_cases f : Fok (frOf h m s 0 0)
      · rw [if_pos ⟨c, f⟩]
        exact bE_0 (hid.2 c) (hF.2 f) (by omega) (by omega) (by show ¬ ((m.size : Int) < ((i * s : Nat) : Int) + _); rw [e]; omega)
      · rw [if_neg (fun x => f x.2)]
        exact bE_f (hid.2 c) (fun x => f (hF.1 x))
    · rw [if_neg (fun x => c x.1)]
      exact bE_id (fun x => c (hid.1 x))
  rw [ok j hj, ok 0 (by omega)]
def OwnB (w : World) (base : Nat) (v : Value) (L : List Bn) : Prop := w.ownsRow base 26 9 v L.length (fl Bn.cells L)
theorem OwnB.form {w : World} {base : Nat} {v : Value} {L : List Bn} (h : OwnB w base v L) : ∃ A c, v = .slice A L.length c := by
  obtain ⟨A, c, rfl, _⟩ := SlAt.own h
  exact ⟨A, c, rfl⟩
def frN (h : Bn) (m : ByteArray) (s k : Nat) : List Bn := (List.range k).map fun j => frOf h m s j j
theorem frN_succ (h : Bn) (m : ByteArray) (s k : Nat) : frN h m s (k + 1) = frN h m s k ++ [frOf h m s k k] := by unfold frN; rw [List.range_succ, List.map_append]; rfl
theorem frN_len (h : Bn) (m : ByteArray) (s k : Nat) : (frN h m s k).length = k := by simp [frN]


set_option maxRecDepth 100000 in
set_option maxHeartbeats 4000000 in
theorem rCut_ok (node seq dest prio born life total : Int) (data : ByteArray) (m : ByteArray) (s : Nat) (hs1 : 1 ≤ s ∧ s ≤ 1000) (hms : m.size ≤ 20000) (hmp : 0 < m.size) (w : World) :
    Calls Try.prog 12 #[.agg #[.int .i64 node, .int .u64 seq, .int .i64 0, .int .i64 dest, .int .i64 prio, .int .i64 born, .int .i64 life, .int .i64 total, .string data], .string m, .int .i64 s] w (RetBs (cutOf ⟨node, seq, 0, dest, prio, born, life, total, data⟩ m s).1 (cutOf ⟨node, seq, 0, dest, prio, born, life, total, data⟩ m s).2 w) := by
  have hm0 : m.toList.isEmpty = false := isEmpty_of m (by omega)
  have h1i : ¬ (m.size : Int) > 20000 := by omega
  have h2' : ¬ (s : Int) < 1 := by omega
  have h3' : ¬ (s : Int) > 1000 := by omega
  obtain ⟨h, hh⟩ : ∃ h : Bn, h = ⟨node, seq, 0, dest, prio, born, life, total, data⟩ := ⟨_, rfl⟩
  obtain ⟨ee, hee⟩ : ∃ ee, bE (frOf h m s 0 0) = ee := ⟨_, rfl⟩
  have R : Hid (cutOf ⟨node, seq, 0, dest, prio, born, life, total, data⟩ m s = if ee ≠ 0 then ([], ee) else (fragsOf h m s, 0)) := Lib.hid (by
    rw [← hh]
    unfold cutOf
    rw [if_neg (by omega), if_neg (by omega), if_neg (by rw [hh]; simp; omega), Int.toNat_natCast, hee])
  have CK : Hid (∀ (o q k : Nat), o = k * s → o < m.size → q = min (o + s) m.size → (∀ w, Calls Try.prog 35 #[.agg #[.int .i64 node, .int .u64 seq, .int .i64 o, .int .i64 dest, .int .i64 prio, .int .i64 born, .int .i64 life, .int .i64 m.size, .string (m.extract o q)]] w (RetI ee w)) ∧ frOf h m s k k = ⟨node, seq, o, dest, prio, born, life, m.size, m.extract o q⟩) := Lib.hid (by
    intro o q k ho hom hq
    have e : (frOf h m s k k) = ⟨node, seq, o, dest, prio, born, life, m.size, m.extract o q⟩ := by rw [hh, ho, hq, ho]; rfl
    refine ⟨fun w => ?_, e⟩
    have := rCheck_any (frOf h m s k k) w
    rw [fr_err h m s k hs1 hms (by omega), hee, e] at this
    exact this)
  obtain ⟨rs, re, hr⟩ : ∃ rs re, cutOf ⟨node, seq, 0, dest, prio, born, life, total, data⟩ m s = (rs, re) := ⟨_, _, rfl⟩
  rw [hr] at R ⊢
  have HEE := Lib.hid hee
  dsimp only
  clear hee hr hh
  by_cases he : ee = 0
  · subst he
    have hif := R.out
    rw [if_neg (by decide)] at hif
    injection hif with h1 h2
    replace h1 := Lib.hid h1
    replace h2 := Lib.hid h2
    have hk21 : (m.size + s - 1) / s ≤ 21000 := Nat.le_trans (Nat.div_le_self _ _) (by omega)
    go_enter Try.func12, Try.ntmps12
    go_wp2_with fail
    go_loopw [8, 9] (fun s8 s9 wr => ∃ k o : Nat, Hid (o = k * s) ∧ k ≤ (m.size + s - 1) / s ∧ s9 = .int .i64 (o : Int) ∧ OwnB wr (w.heap.size + 1) s8 (frN h m s k) ∧ Blk wr w.heap.size 26 #[.int .i64 node, .int .u64 seq, .int .i64 0, .int .i64 dest, .int .i64 prio, .int .i64 born, .int .i64 life, .int .i64 total, .string data] ∧ Below w.heap.size w wr) (fun _ s9 _ => m.size + 2000 - (intOf s9).toNat)
    case atStart => exact ⟨0, 0, Lib.hid (by simp), Nat.zero_le _, rfl, World.ownsRow_nil _ _ _ _, Blk.new _ _ _, (by repeat (first | with_reducible exact Below.refl _ _ | with_reducible refine Below.drew ?_ | with_reducible refine below_drewN ?_ _ | with_reducible refine bal ?_ _ | with_reducible refine bset ?_ (by first | (simp; done) | (simp; omega)) _ | with_reducible refine bnext ?_ (by assumption) | with_reducible assumption))⟩
    case round =>
      obtain ⟨k, o, ho, hk, rfl, hO, kh, hB⟩ := hrel
      obtain ⟨Ao, co, rfl⟩ := hO.form
      have hlenk := Lib.hid (frN_len h m s k)
      have hwl := kh.lt
      by_cases hlt : o < m.size
      · obtain ⟨x0, x1, x2, x3, x4, x5, x6, x7, x8⟩ := kh.c9
        obtain ⟨q, hq⟩ : ∃ q, q = min (o + s) m.size := ⟨_, rfl⟩
        have hoq : o ≤ q := by omega
        have hqm : q ≤ m.size := by omega
        have hoi : (o : Int) ≤ q := by omega
        have hqi : (q : Int) ≤ m.size := by omega
        have ho0 : (0 : Int) ≤ o := by omega
        have hq0 : (0 : Int) ≤ q := by omega
        have hlti : (o : Int) < m.size := by omega
        obtain ⟨t, ht⟩ : ∃ t, t = o + s := ⟨_, rfl⟩
        have ht0 : (0 : Int) ≤ t := by omega
        have hot : o < t := by omega
        have hob : t ≤ m.size + 1000 := by omega
        have WS : IntKind.i64.wrap ((o : Int) + s) = (t : Int) := by rw [ht, Int.natCast_add]; exact IntWalk.i64_in _ (by omega)
        have hlt2 : k < (m.size + s - 1) / s := by
          rw [Nat.lt_div_iff_mul_lt hs1.1]
          have := ho.out
          have : s * k = o := by rw [Nat.mul_comm]; exact ho.out.symm
          omega
        have hks : Hid (t = (k + 1) * s) := Lib.hid (by rw [ht, Nat.add_mul, Nat.one_mul, ho.out])
        obtain ⟨CKo, hcell⟩ := CK.out o q k ho.out hlt hq
        have CKO := Lib.hid CKo
        have HCELL := Lib.hid hcell
        have HO := Lib.hid hO
        clear CKo hcell hO hlt
        by_cases hc : (m.size : Int) < t
        · obtain rfl : q = m.size := by omega
          clear hq ht
          go_wp2_with fail
          refine (CKO.out _).mono ?_
          rintro e w3 ⟨rfl, hb3⟩
          have kb3 := (Blk.new wr 26 #[.int .i64 node, .int .u64 seq, .int .i64 o, .int .i64 dest, .int .i64 prio, .int .i64 born, .int .i64 life, .int .i64 m.size, .string (m.extract o m.size)]).below hb3
          have kh3 := (kh.alloc (.cells #[.int .i64 node, .int .u64 seq, .int .i64 o, .int .i64 dest, .int .i64 prio, .int .i64 born, .int .i64 life, .int .i64 m.size, .string (m.extract o m.size)] 26)).below hb3
          have hB3 := bnext (bal hB (.cells #[.int .i64 node, .int .u64 seq, .int .i64 o, .int .i64 dest, .int .i64 prio, .int .i64 born, .int .i64 life, .int .i64 m.size, .string (m.extract o m.size)] 26)) hb3
          have hO3 := own_below hb3 (HO.out.alloc (.cells #[.int .i64 node, .int .u64 seq, .int .i64 o, .int .i64 dest, .int .i64 prio, .int .i64 born, .int .i64 life, .int .i64 m.size, .string (m.extract o m.size)] 26))
          obtain ⟨y0, y1, y2, y3, y4, y5, y6, y7, y8⟩ := kb3.c9
          have hly := kb3.lt
          have HO3 := Lib.hid hO3
          clear hO3 hb3 kh
          have hbw : w.heap.size + 1 ≤ w3.heap.size := by omega
          have l1 : ((frN h m s k).length + 1) * 80 ≤ 140737488355328 := by rw [frN_len]; omega
          have l2 : (frN h m s k).length + 1 ≤ maxLen := by rw [frN_len]; unfold maxLen; omega
          have HB3 := Lib.hid hB3
          clear hB3
          go_upto_region 18 with fail
          go_wp2_with (at_builtin; refine wpList_app1n (f := Bn.cells) rfl _ _ 28 rfl (w.heap.size + 1) 26 9 80 infoBn rfl (by decide) Try.underlying28 bn9 bn_one w3 w w.heap.size (⟨node, seq, o, dest, prio, born, life, m.size, m.extract o m.size⟩ : Bn) (frN h m s k) _ (by rfl) (by rfl) HO3.out HB3.out (by omega) hbw l1 l2 ?_)
          intro A3 c3 w4 hown4 hB4 hg4 _
          have kh4 := (kh3.alloc (.cells (Bn.cells ⟨node, seq, o, dest, prio, born, life, m.size, m.extract o m.size⟩).toArray 26)).grown hg4 (fun e => by have := (HO3.out.lt _ e.symm).1; omega)
          have HL : Hid ((frN h m s k).length + 1 = (frN h m s (k + 1)).length) := Lib.hid (by rw [frN_len, frN_len])
          rw [← HCELL.out, ← frN_succ] at hown4
          rw [HL.out] at hown4 ⊢
          have HO4 := Lib.hid hown4
          have HB4 := Lib.hid hB4
          clear hown4 hg4 hB4
          go_wp2_with fail
          go_roundw
          case rel => exact ⟨k + 1, t, hks, hlt2, rfl, HO4.out, kh4, HB4.out⟩
          case measure => simp [intOf]; omega
        · obtain rfl : q = t := by omega
          clear hq ht
          go_wp2_with fail
          refine (CKO.out _).mono ?_
          rintro e w3 ⟨rfl, hb3⟩
          have kb3 := (Blk.new wr 26 #[.int .i64 node, .int .u64 seq, .int .i64 o, .int .i64 dest, .int .i64 prio, .int .i64 born, .int .i64 life, .int .i64 m.size, .string (m.extract o q)]).below hb3
          have kh3 := (kh.alloc (.cells #[.int .i64 node, .int .u64 seq, .int .i64 o, .int .i64 dest, .int .i64 prio, .int .i64 born, .int .i64 life, .int .i64 m.size, .string (m.extract o q)] 26)).below hb3
          have hB3 := bnext (bal hB (.cells #[.int .i64 node, .int .u64 seq, .int .i64 o, .int .i64 dest, .int .i64 prio, .int .i64 born, .int .i64 life, .int .i64 m.size, .string (m.extract o q)] 26)) hb3
          have hO3 := own_below hb3 (HO.out.alloc (.cells #[.int .i64 node, .int .u64 seq, .int .i64 o, .int .i64 dest, .int .i64 prio, .int .i64 born, .int .i64 life, .int .i64 m.size, .string (m.extract o q)] 26))
          obtain ⟨y0, y1, y2, y3, y4, y5, y6, y7, y8⟩ := kb3.c9
          have hly := kb3.lt
          have HO3 := Lib.hid hO3
          clear hO3 hb3 kh
          have hbw : w.heap.size + 1 ≤ w3.heap.size := by omega
          have l1 : ((frN h m s k).length + 1) * 80 ≤ 140737488355328 := by rw [frN_len]; omega
          have l2 : (frN h m s k).length + 1 ≤ maxLen := by rw [frN_len]; unfold maxLen; omega
          have HB3 := Lib.hid hB3
          clear hB3
          go_upto_region 18 with fail
          go_wp2_with (at_builtin; refine wpList_app1n (f := Bn.cells) rfl _ _ 28 rfl (w.heap.size + 1) 26 9 80 infoBn rfl (by decide) Try.underlying28 bn9 bn_one w3 w w.heap.size (⟨node, seq, o, dest, prio, born, life, m.size, m.extract o q⟩ : Bn) (frN h m s k) _ (by rfl) (by rfl) HO3.out HB3.out (by omega) hbw l1 l2 ?_)
          intro A3 c3 w4 hown4 hB4 hg4 _
          have kh4 := (kh3.alloc (.cells (Bn.cells ⟨node, seq, o, dest, prio, born, life, m.size, m.extract o q⟩).toArray 26)).grown hg4 (fun e => by have := (HO3.out.lt _ e.symm).1; omega)
          have HL : Hid ((frN h m s k).length + 1 = (frN h m s (k + 1)).length) := Lib.hid (by rw [frN_len, frN_len])
          rw [← HCELL.out, ← frN_succ] at hown4
          rw [HL.out] at hown4 ⊢
          have HO4 := Lib.hid hown4
          have HB4 := Lib.hid hB4
          clear hown4 hg4 hB4
          go_wp2_with fail
          go_roundw
          case rel => exact ⟨k + 1, q, hks, hlt2, rfl, HO4.out, kh4, HB4.out⟩
          case measure => simp [intOf]; omega
      · obtain rfl : k = (m.size + s - 1) / s := by
          have h1 : ¬ k < (m.size + s - 1) / s := fun c => by
            rw [Nat.lt_div_iff_mul_lt hs1.1] at c
            have : s * k = o := by rw [Nat.mul_comm]; exact ho.out.symm
            have : k * s = o := ho.out.symm
            omega
          omega
        have hni : ¬ (o : Int) < m.size := by omega
        have HO := Lib.hid hO
        clear hO hlt
        go_wp2_with fail
        go_ret2
        rw [h1.out, h2.out]
        exact ⟨_, rfl, SlAt.own HO.out, hB⟩
  · have han : (ee != 0) = true := by simpa using he
    have hif := R.out
    rw [if_pos he] at hif
    injection hif with h1 h2
    replace h1 := Lib.hid h1
    replace h2 := Lib.hid h2
    obtain ⟨q, hq⟩ : ∃ q, q = min (0 + s) m.size := ⟨_, rfl⟩
    obtain ⟨CKo, _⟩ := CK.out 0 q 0 (by simp) hmp hq
    have CKO := Lib.hid CKo
    have hqm : q ≤ m.size := by omega
    have hqi : (q : Int) ≤ m.size := by omega
    have hq0 : (0 : Int) ≤ q := by omega
    have hmi : (0 : Int) < m.size := by omega
    have WS : IntKind.i64.wrap ((0 : Int) + s) = (s : Int) := by rw [Int.zero_add]; exact IntWalk.i64_in _ (by omega)
    have WS1 : IntKind.i64.wrap (s : Int) = (s : Int) := IntWalk.i64_in _ (by omega)
    have hs0 : (0 : Int) ≤ s := by omega
    clear he CKo
    by_cases hc : (m.size : Int) < s
    · obtain rfl : q = m.size := by omega
      rw [show m.extract 0 m.size = m by simp] at CKO
      clear hq
      go_enter Try.func12, Try.ntmps12
      go_wp2_with fail
      go_loopw [8, 9] (fun s8 s9 wr => s8 = .slice none 0 0 ∧ s9 = .int .i64 0 ∧ Blk wr w.heap.size 26 #[.int .i64 node, .int .u64 seq, .int .i64 0, .int .i64 dest, .int .i64 prio, .int .i64 born, .int .i64 life, .int .i64 total, .string data] ∧ Below w.heap.size w wr) (fun _ _ _ => 0)
      case atStart => exact ⟨rfl, rfl, Blk.new _ _ _, (by repeat (first | with_reducible exact Below.refl _ _ | with_reducible refine Below.drew ?_ | with_reducible refine below_drewN ?_ _ | with_reducible refine bal ?_ _ | with_reducible refine bset ?_ (by first | (simp; done) | (simp; omega)) _ | with_reducible refine bnext ?_ (by assumption) | with_reducible assumption))⟩
      case round =>
        obtain ⟨rfl, rfl, kh, hB⟩ := hrel
        obtain ⟨x0, x1, x2, x3, x4, x5, x6, x7, x8⟩ := kh.c9
        have hwl := kh.lt
        go_wp2_with fail
        refine (CKO.out _).mono ?_
        rintro e w3 ⟨rfl, hb3⟩
        have hB3 := bnext (bal hB (.cells #[.int .i64 node, .int .u64 seq, .int .i64 0, .int .i64 dest, .int .i64 prio, .int .i64 born, .int .i64 life, .int .i64 m.size, .string m] 26)) hb3
        clear CK R CKO HEE h1i hb3 kh
        go_wp2_with fail
        go_ret2
        rw [h1.out, h2.out]
        exact ⟨_, rfl, bnAt_nil _, hB3⟩
    · obtain rfl : q = s := by omega
      clear hq
      go_enter Try.func12, Try.ntmps12
      go_wp2_with fail
      go_loopw [8, 9] (fun s8 s9 wr => s8 = .slice none 0 0 ∧ s9 = .int .i64 0 ∧ Blk wr w.heap.size 26 #[.int .i64 node, .int .u64 seq, .int .i64 0, .int .i64 dest, .int .i64 prio, .int .i64 born, .int .i64 life, .int .i64 total, .string data] ∧ Below w.heap.size w wr) (fun _ _ _ => 0)
      case atStart => exact ⟨rfl, rfl, Blk.new _ _ _, (by repeat (first | with_reducible exact Below.refl _ _ | with_reducible refine Below.drew ?_ | with_reducible refine below_drewN ?_ _ | with_reducible refine bal ?_ _ | with_reducible refine bset ?_ (by first | (simp; done) | (simp; omega)) _ | with_reducible refine bnext ?_ (by assumption) | with_reducible assumption))⟩
      case round =>
        obtain ⟨rfl, rfl, kh, hB⟩ := hrel
        obtain ⟨x0, x1, x2, x3, x4, x5, x6, x7, x8⟩ := kh.c9
        have hwl := kh.lt
        go_wp2_with fail
        refine (CKO.out _).mono ?_
        rintro e w3 ⟨rfl, hb3⟩
        have hB3 := bnext (bal hB (.cells #[.int .i64 node, .int .u64 seq, .int .i64 0, .int .i64 dest, .int .i64 prio, .int .i64 born, .int .i64 life, .int .i64 m.size, .string (m.extract 0 q)] 26)) hb3
        clear CK R CKO HEE h1i hb3 kh
        go_wp2_with fail
        go_ret2
        rw [h1.out, h2.out]
        exact ⟨_, rfl, bnAt_nil _, hB3⟩

set_option maxRecDepth 100000 in
set_option maxHeartbeats 4000000 in
theorem rCut_any (h : Bn) (m : ByteArray) (z : Int) (w : World) :
    Calls Try.prog 12 #[h.val, .string m, .int .i64 z] w (RetBs (cutOf h m z).1 (cutOf h m z).2 w) := by
  rw [Bn.val_eq]
  by_cases h0 : m.size = 0
  · have R : Hid (cutOf h m z = ([], 3)) := Lib.hid (if_pos h0)
    have e0 := ba_nil h0
    subst e0
    clear h0
    go_enter Try.func12, Try.ntmps12
    go_wp2_with fail
    go_ret2
    rw [R.out]
    exact ⟨_, rfl, bnAt_nil _, (by repeat (first | with_reducible exact Below.refl _ _ | with_reducible refine Below.drew ?_ | with_reducible refine below_drewN ?_ _ | with_reducible refine bal ?_ _ | with_reducible refine bset ?_ (by first | (simp; done) | (simp; omega)) _ | with_reducible refine bnext ?_ (by assumption) | with_reducible assumption))⟩
  · have hm0 : m.toList.isEmpty = false := isEmpty_of m h0
    by_cases h1 : 20000 < m.size
    · have R : Hid (cutOf h m z = ([], 4)) := Lib.hid (by unfold cutOf; rw [if_neg h0, if_pos h1])
      have h1i : (20000 : Int) < m.size := by omega
      clear h0
      go_enter Try.func12, Try.ntmps12
      go_wp2_with fail
      go_ret2
      rw [R.out]
      exact ⟨_, rfl, bnAt_nil _, (by repeat (first | with_reducible exact Below.refl _ _ | with_reducible refine Below.drew ?_ | with_reducible refine below_drewN ?_ _ | with_reducible refine bal ?_ _ | with_reducible refine bset ?_ (by first | (simp; done) | (simp; omega)) _ | with_reducible refine bnext ?_ (by assumption) | with_reducible assumption))⟩
    · have h1i : ¬ (m.size : Int) > 20000 := by omega
      by_cases h2 : z < 1
      · have R : Hid (cutOf h m z = ([], 2)) := Lib.hid (by unfold cutOf; rw [if_neg h0, if_neg h1, if_pos (.inl h2)])
        clear h0 h1
        go_enter Try.func12, Try.ntmps12
        go_wp2_with fail
        go_ret2
        rw [R.out]
        exact ⟨_, rfl, bnAt_nil _, (by repeat (first | with_reducible exact Below.refl _ _ | with_reducible refine Below.drew ?_ | with_reducible refine below_drewN ?_ _ | with_reducible refine bal ?_ _ | with_reducible refine bset ?_ (by first | (simp; done) | (simp; omega)) _ | with_reducible refine bnext ?_ (by assumption) | with_reducible assumption))⟩
      · by_cases h3 : z > 1000
        · have R : Hid (cutOf h m z = ([], 2)) := Lib.hid (by unfold cutOf; rw [if_neg h0, if_neg h1, if_pos (.inr (.inl h3))])
          clear h0 h1
          go_enter Try.func12, Try.ntmps12
          go_wp2_with fail
          go_ret2
          rw [R.out]
          exact ⟨_, rfl, bnAt_nil _, (by repeat (first | with_reducible exact Below.refl _ _ | with_reducible refine Below.drew ?_ | with_reducible refine below_drewN ?_ _ | with_reducible refine bal ?_ _ | with_reducible refine bset ?_ (by first | (simp; done) | (simp; omega)) _ | with_reducible refine bnext ?_ (by assumption) | with_reducible assumption))⟩
        · by_cases h4 : h.off = 0
          · obtain ⟨s, rfl⟩ : ∃ s : Nat, z = s := ⟨z.toNat, by omega⟩
            obtain ⟨node, seq, off, dest, prio, born, life, total, data⟩ := h
            dsimp only at h4
            subst h4
            exact rCut_ok node seq dest prio born life total data m s (by omega) (by omega) (by omega) w
          · have R : Hid (cutOf h m z = ([], 2)) := Lib.hid (by unfold cutOf; rw [if_neg h0, if_neg h1, if_pos (.inr (.inr h4))])
            have h4n : (h.off != 0) = true := by simpa using h4
            clear h0 h1
            go_enter Try.func12, Try.ntmps12
            go_wp2_with fail
            go_ret2
            rw [R.out]
            exact ⟨_, rfl, bnAt_nil _, (by repeat (first | with_reducible exact Below.refl _ _ | with_reducible refine Below.drew ?_ | with_reducible refine below_drewN ?_ _ | with_reducible refine bal ?_ _ | with_reducible refine bset ?_ (by first | (simp; done) | (simp; omega)) _ | with_reducible refine bnext ?_ (by assumption) | with_reducible assumption))⟩
end Go.Proofs.Ytcifngefclgefaa
