/- Contracts: cutting a message, and cutting it anew (the program). -/
import Derived.Test.YtcifngefclgefaaN
namespace Go.Proofs.Ytcifngefclgefaa
open Go.RowKit
set_option linter.unusedVariables false
set_option linter.unusedSimpArgs false

/-- the fragments of a message, or the error -/
def cutOf (h : Bn) (m : ByteArray) (z : Int) : List Bn × Int :=
  if m.size = 0 then ([], 3) else if 20000 < m.size then ([], 4) else if z < 1 ∨ 1000 < z ∨ h.off ≠ 0 then ([], 2) else if bE (frOf h m z.toNat 0 0) ≠ 0 then ([], bE (frOf h m z.toNat 0 0)) else (fragsOf h m z.toNat, 0)
def refitOf (l : List Bn) (z : Int) : List Bn × Int :=
  if (joinOf l).2 ≠ 0 then ([], (joinOf l).2) else if z < 1 ∨ 1000 < z then ([], 2) else (fragsOf (bnAt l 0) (joinOf l).1 z.toNat, 0)
def RetBs (L : List Bn) (er : Int) (w : World) (e : Ending) (w' : World) : Prop := ∃ v, e = .returned (.tuple #[v, .int .i64 er]) ∧ BnAt w' v L ∧ Below w.heap.size w w'
def RetBo (L : List Bn) (er : Int) (w : World) (e : Ending) (w' : World) : Prop := ∃ v, e = .returned (.tuple #[v, .int .i64 er]) ∧ w'.ownsRow w.heap.size 26 9 v L.length (fl Bn.cells L) ∧ Below w.heap.size w w'
theorem RetBo.bs {L : List Bn} {er : Int} {w : World} {e : Ending} {w' : World} (h : RetBo L er w e w') : RetBs L er w e w' := by
  obtain ⟨v, h1, h2, h3⟩ := h
  exact ⟨v, h1, SlAt.own h2, h3⟩
theorem bnAt_nil (w : World) : BnAt w (.slice none 0 0) [] := SlAt.own (World.ownsRow_nil w w.heap.size 26 9)
theorem loopNe (bs : ByteArray) : ∀ (n i : Nat) (r : List UInt8), bs.size - i = n → (ByteArray.toList.loop bs i r).length = n + r.length := by
  intro n
  induction n with
  | zero => intro i r h; rw [ByteArray.toList.loop]; rw [if_neg (by omega)]; simp
  | succ n ih => intro i r h; rw [ByteArray.toList.loop]; rw [if_pos (by omega), ih _ _ (by omega)]; simp; omega
theorem toList_len (bs : ByteArray) : bs.toList.length = bs.size := by rw [ByteArray.toList, loopNe bs bs.size 0 [] rfl]; rfl
theorem isEmpty_of (bs : ByteArray) (h : ¬ bs.size = 0) : bs.toList.isEmpty = false := by
  cases hl : bs.toList with
  | nil => have := toList_len bs; rw [hl] at this; simp at this; omega
  | cons a b => rfl
theorem ba_nil {m : ByteArray} (h : m.size = 0) : m = ⟨#[]⟩ := by
  cases m with
  | mk d =>
    have : d = #[] := Array.eq_empty_of_size_eq_zero h
    rw [this]
theorem frags_n0 {m : ByteArray} {s : Nat} (hm : 0 < m.size) (hs : 1 ≤ s) : 0 < (m.size + s - 1) / s := Nat.div_pos (by omega) hs
theorem frags_get0 {h : Bn} {m : ByteArray} {s : Nat} (hm : 0 < m.size) (hs : 1 ≤ s) : (fragsOf h m s)[0]? = some (frOf h m s 0 0) := by
  unfold fragsOf
  rw [List.getElem?_map, List.getElem?_range (frags_n0 hm hs)]
  rfl
theorem frags_len (h : Bn) (m : ByteArray) (s : Nat) : (fragsOf h m s).length = (m.size + s - 1) / s := by simp [fragsOf]

set_option maxRecDepth 100000 in
set_option maxHeartbeats 4000000 in
theorem fCut_ok (node seq dest prio born life total : Int) (data : ByteArray) (m : ByteArray) (s : Nat) (hs1 : 1 ≤ s ∧ s ≤ 1000) (hms : m.size ≤ 20000) (hmp : 0 < m.size) (w : World) :
    Calls Try.prog 11 #[.agg #[.int .i64 node, .int .u64 seq, .int .i64 0, .int .i64 dest, .int .i64 prio, .int .i64 born, .int .i64 life, .int .i64 total, .string data], .string m, .int .i64 s] w (RetBs (cutOf ⟨node, seq, 0, dest, prio, born, life, total, data⟩ m s).1 (cutOf ⟨node, seq, 0, dest, prio, born, life, total, data⟩ m s).2 w) := by
  have hm0 : m.toList.isEmpty = false := isEmpty_of m (by omega)
  have h1i : ¬ (m.size : Int) > 20000 := by omega
  have h2' : ¬ (s : Int) < 1 := by omega
  have h3' : ¬ (s : Int) > 1000 := by omega
  obtain ⟨y, hy⟩ : ∃ y, frOf ⟨node, seq, 0, dest, prio, born, life, total, data⟩ m s 0 0 = y := ⟨_, rfl⟩
  obtain ⟨ee, hee⟩ : ∃ ee, bE y = ee := ⟨_, rfl⟩
  have CK : Hid (∀ w, Calls Try.prog 34 #[.agg (BX y)] w (RetI ee w)) := Lib.hid (fun w => by rw [← hee]; exact Check_any y w)
  have hg0 : (fragsOf ⟨node, seq, 0, dest, prio, born, life, total, data⟩ m s)[0]? = some y := by rw [← hy]; exact frags_get0 hmp hs1.1
  obtain ⟨L, hL⟩ : ∃ L, fragsOf ⟨node, seq, 0, dest, prio, born, life, total, data⟩ m s = L := ⟨_, rfl⟩
  have R : Hid (cutOf ⟨node, seq, 0, dest, prio, born, life, total, data⟩ m s = if ee ≠ 0 then ([], ee) else (L, 0)) := Lib.hid (by
    unfold cutOf
    rw [if_neg (by omega), if_neg (by omega), if_neg (by simp; omega), Int.toNat_natCast, hy, hee, hL])
  obtain ⟨rs, re, hr⟩ : ∃ rs re, cutOf ⟨node, seq, 0, dest, prio, born, life, total, data⟩ m s = (rs, re) := ⟨_, _, rfl⟩
  rw [hr] at R ⊢
  have FR : Hid (∀ w, Calls Try.prog 33 #[.agg #[.int .i64 node, .int .u64 seq, .int .i64 0, .int .i64 dest, .int .i64 prio, .int .i64 born, .int .i64 life, .int .i64 total, .string data], .string m, .int .i64 s] w fun e w' => ∃ v, e = .returned v ∧ BnAt w' v L ∧ Below w.heap.size w w') := Lib.hid (by rw [← hL]; exact fragments_any ⟨node, seq, 0, dest, prio, born, life, total, data⟩ m s hs1 hms)
  rw [hL] at hg0
  have HG := Lib.hid hg0
  have hlp : (0 : Int) < L.length := by have := (List.getElem?_eq_some_iff.1 hg0).1; omega
  dsimp only
  clear hy hee hg0 hL hr hs1 hms hmp
  go_enter Try.func11, Try.ntmps11
  go_wp2_with fail
  refine (FR.out _).mono ?_
  rintro e w1 ⟨v, rfl, hv, hb1⟩
  have HV := Lib.hid hv
  obtain ⟨A, c, rfl, _, hc2, hR⟩ := hv
  obtain ⟨b, o, rfl, hb, q0, q1, q2, q3, q4, q5, q6, q7, q8⟩ := reads_bn hR rfl HG.out
  simp only [Nat.zero_mul, Nat.add_zero] at q0 q1 q2 q3 q4 q5 q6 q7 q8
  have hB1 := bnext (bal (Below.refl w.heap.size w) (.cells #[.int .i64 node, .int .u64 seq, .int .i64 0, .int .i64 dest, .int .i64 prio, .int .i64 born, .int .i64 life, .int .i64 total, .string data] 26)) hb1
  clear hR hb1 FR
  go_wp2_with fail
  refine (CK.out _).mono ?_
  rintro e w2 ⟨rfl, hb2⟩
  have hB2 := bnext hB1 hb2
  by_cases he : ee = 0
  · subst he
    have hif := R.out
    rw [if_neg (by decide)] at hif
    injection hif with h1 h2
    have h1 := Lib.hid h1
    have h2 := Lib.hid h2
    go_wp2_with fail
    go_ret2
    rw [h1.out, h2.out]
    exact ⟨_, rfl, SlAt.below HV.out hb2, hB2⟩
  · have han : (ee != 0) = true := by simpa using he
    have hif := R.out
    rw [if_pos he] at hif
    injection hif with h1 h2
    have h1 := Lib.hid h1
    have h2 := Lib.hid h2
    clear he
    go_wp2_with fail
    go_ret2
    rw [h1.out, h2.out]
    exact ⟨_, rfl, bnAt_nil _, hB2⟩

set_option maxRecDepth 100000 in
set_option maxHeartbeats 4000000 in
theorem fCut_ok_own (node seq dest prio born life total : Int) (data : ByteArray) (m : ByteArray) (s : Nat) (hs1 : 1 ≤ s ∧ s ≤ 1000) (hms : m.size ≤ 20000) (hmp : 0 < m.size) (w : World) :
    Calls Try.prog 11 #[.agg #[.int .i64 node, .int .u64 seq, .int .i64 0, .int .i64 dest, .int .i64 prio, .int .i64 born, .int .i64 life, .int .i64 total, .string data], .string m, .int .i64 s] w (RetBo (cutOf ⟨node, seq, 0, dest, prio, born, life, total, data⟩ m s).1 (cutOf ⟨node, seq, 0, dest, prio, born, life, total, data⟩ m s).2 w) := by
  have hm0 : m.toList.isEmpty = false := isEmpty_of m (by omega)
  have h1i : ¬ (m.size : Int) > 20000 := by omega
  have h2' : ¬ (s : Int) < 1 := by omega
  have h3' : ¬ (s : Int) > 1000 := by omega
  obtain ⟨y, hy⟩ : ∃ y, frOf ⟨node, seq, 0, dest, prio, born, life, total, data⟩ m s 0 0 = y := ⟨_, rfl⟩
  obtain ⟨ee, hee⟩ : ∃ ee, bE y = ee := ⟨_, rfl⟩
  have CK : Hid (∀ w, Calls Try.prog 34 #[.agg (BX y)] w (RetI ee w)) := Lib.hid (fun w => by rw [← hee]; exact Check_any y w)
  have hg0 : (fragsOf ⟨node, seq, 0, dest, prio, born, life, total, data⟩ m s)[0]? = some y := by rw [← hy]; exact frags_get0 hmp hs1.1
  obtain ⟨L, hL⟩ : ∃ L, fragsOf ⟨node, seq, 0, dest, prio, born, life, total, data⟩ m s = L := ⟨_, rfl⟩
  have R : Hid (cutOf ⟨node, seq, 0, dest, prio, born, life, total, data⟩ m s = if ee ≠ 0 then ([], ee) else (L, 0)) := Lib.hid (by
    unfold cutOf
    rw [if_neg (by omega), if_neg (by omega), if_neg (by simp; omega), Int.toNat_natCast, hy, hee, hL])
  obtain ⟨rs, re, hr⟩ : ∃ rs re, cutOf ⟨node, seq, 0, dest, prio, born, life, total, data⟩ m s = (rs, re) := ⟨_, _, rfl⟩
  rw [hr] at R ⊢
  have FR : Hid (∀ w, Calls Try.prog 33 #[.agg #[.int .i64 node, .int .u64 seq, .int .i64 0, .int .i64 dest, .int .i64 prio, .int .i64 born, .int .i64 life, .int .i64 total, .string data], .string m, .int .i64 s] w fun e w' => ∃ v, e = .returned v ∧ w'.ownsRow w.heap.size 26 9 v L.length (fl Bn.cells L) ∧ Below w.heap.size w w') := Lib.hid (by rw [← hL]; exact fragments_own ⟨node, seq, 0, dest, prio, born, life, total, data⟩ m s hs1 hms)
  rw [hL] at hg0
  have HG := Lib.hid hg0
  have hlp : (0 : Int) < L.length := by have := (List.getElem?_eq_some_iff.1 hg0).1; omega
  dsimp only
  clear hy hee hg0 hL hr hs1 hms hmp
  go_enter Try.func11, Try.ntmps11
  go_wp2_with fail
  refine (FR.out _).mono ?_
  rintro e w1 ⟨v, rfl, hv, hb1⟩
  have HV := Lib.hid hv
  obtain ⟨A, c, rfl, _, hc2, hR⟩ := SlAt.own hv
  obtain ⟨b, o, rfl, hb, q0, q1, q2, q3, q4, q5, q6, q7, q8⟩ := reads_bn hR rfl HG.out
  simp only [Nat.zero_mul, Nat.add_zero] at q0 q1 q2 q3 q4 q5 q6 q7 q8
  have hB1 := bnext (bal (Below.refl w.heap.size w) (.cells #[.int .i64 node, .int .u64 seq, .int .i64 0, .int .i64 dest, .int .i64 prio, .int .i64 born, .int .i64 life, .int .i64 total, .string data] 26)) hb1
  clear hR hb1 FR
  go_wp2_with fail
  refine (CK.out _).mono ?_
  rintro e w2 ⟨rfl, hb2⟩
  have hB2 := bnext hB1 hb2
  by_cases he : ee = 0
  · subst he
    have hif := R.out
    rw [if_neg (by decide)] at hif
    injection hif with h1 h2
    have h1 := Lib.hid h1
    have h2 := Lib.hid h2
    go_wp2_with fail
    go_ret2
    rw [h1.out, h2.out]
    exact ⟨_, rfl, own_mono (own_below hb2 HV.out) (by simp), hB2⟩
  · have han : (ee != 0) = true := by simpa using he
    have hif := R.out
    rw [if_pos he] at hif
    injection hif with h1 h2
    have h1 := Lib.hid h1
    have h2 := Lib.hid h2
    clear he
    go_wp2_with fail
    go_ret2
    rw [h1.out, h2.out]
    exact ⟨_, rfl, World.ownsRow_nil _ _ _ _, hB2⟩

set_option maxRecDepth 100000 in
set_option maxHeartbeats 4000000 in
theorem fCut_any (h : Bn) (m : ByteArray) (z : Int) (w : World) :
    Calls Try.prog 11 #[h.val, .string m, .int .i64 z] w (RetBs (cutOf h m z).1 (cutOf h m z).2 w) := by
  rw [Bn.val_eq]
  by_cases h0 : m.size = 0
  · have R : Hid (cutOf h m z = ([], 3)) := Lib.hid (if_pos h0)
    have e0 := ba_nil h0
    subst e0
    clear h0
    go_enter Try.func11, Try.ntmps11
    go_wp2_with fail
    go_ret2
    rw [R.out]
    exact ⟨_, rfl, bnAt_nil _, (by repeat (first | with_reducible exact Below.refl _ _ | with_reducible refine Below.drew ?_ | with_reducible refine below_drewN ?_ _ | with_reducible refine bal ?_ _ | with_reducible refine bset ?_ (by first | (simp; done) | (simp; omega)) _ | with_reducible refine bnext ?_ (by assumption) | with_reducible assumption))⟩
  · have hm0 : m.toList.isEmpty = false := isEmpty_of m h0
    by_cases h1 : 20000 < m.size
    · have R : Hid (cutOf h m z = ([], 4)) := Lib.hid (by unfold cutOf; rw [if_neg h0, if_pos h1])
      have h1i : (20000 : Int) < m.size := by omega
      clear h0
      go_enter Try.func11, Try.ntmps11
      go_wp2_with fail
      go_ret2
      rw [R.out]
      exact ⟨_, rfl, bnAt_nil _, (by repeat (first | with_reducible exact Below.refl _ _ | with_reducible refine Below.drew ?_ | with_reducible refine below_drewN ?_ _ | with_reducible refine bal ?_ _ | with_reducible refine bset ?_ (by first | (simp; done) | (simp; omega)) _ | with_reducible refine bnext ?_ (by assumption) | with_reducible assumption))⟩
    · have h1i : ¬ (m.size : Int) > 20000 := by omega
      by_cases h2 : z < 1
      · have R : Hid (cutOf h m z = ([], 2)) := Lib.hid (by unfold cutOf; rw [if_neg h0, if_neg h1, if_pos (.inl h2)])
        clear h0 h1
        go_enter Try.func11, Try.ntmps11
        go_wp2_with fail
        go_ret2
        rw [R.out]
        exact ⟨_, rfl, bnAt_nil _, (by repeat (first | with_reducible exact Below.refl _ _ | with_reducible refine Below.drew ?_ | with_reducible refine below_drewN ?_ _ | with_reducible refine bal ?_ _ | with_reducible refine bset ?_ (by first | (simp; done) | (simp; omega)) _ | with_reducible refine bnext ?_ (by assumption) | with_reducible assumption))⟩
      · by_cases h3 : z > 1000
        · have R : Hid (cutOf h m z = ([], 2)) := Lib.hid (by unfold cutOf; rw [if_neg h0, if_neg h1, if_pos (.inr (.inl h3))])
          clear h0 h1
          go_enter Try.func11, Try.ntmps11
          go_wp2_with fail
          go_ret2
          rw [R.out]
          exact ⟨_, rfl, bnAt_nil _, (by repeat (first | with_reducible exact Below.refl _ _ | with_reducible refine Below.drew ?_ | with_reducible refine below_drewN ?_ _ | with_reducible refine bal ?_ _ | with_reducible refine bset ?_ (by first | (simp; done) | (simp; omega)) _ | with_reducible refine bnext ?_ (by assumption) | with_reducible assumption))⟩
        · by_cases h4 : h.off = 0
          · obtain ⟨s, rfl⟩ : ∃ s : Nat, z = s := ⟨z.toNat, by omega⟩
            obtain ⟨node, seq, off, dest, prio, born, life, total, data⟩ := h
            dsimp only at h4
            subst h4
            exact fCut_ok node seq dest prio born life total data m s (by omega) (by omega) (by omega) w
          · have R : Hid (cutOf h m z = ([], 2)) := Lib.hid (by unfold cutOf; rw [if_neg h0, if_neg h1, if_pos (.inr (.inr h4))])
            have h4n : (h.off != 0) = true := by simpa using h4
            clear h0 h1
            go_enter Try.func11, Try.ntmps11
            go_wp2_with fail
            go_ret2
            rw [R.out]
            exact ⟨_, rfl, bnAt_nil _, (by repeat (first | with_reducible exact Below.refl _ _ | with_reducible refine Below.drew ?_ | with_reducible refine below_drewN ?_ _ | with_reducible refine bal ?_ _ | with_reducible refine bset ?_ (by first | (simp; done) | (simp; omega)) _ | with_reducible refine bnext ?_ (by assumption) | with_reducible assumption))⟩
theorem join_ok {l : List Bn} {ms : ByteArray} (h : joinOf l = (ms, 0)) : LOk l ∧ ms = ⟨(bysOf (lays l l.length) (bnAt l 0).total.toNat).toArray⟩ ∧ (∀ p, p < (bnAt l 0).total.toNat → (lays l l.length p).isSome = true) := by
  unfold joinOf at h
  by_cases h1 : (laidE l).1 = 0
  · rw [if_neg (fun c => c h1)] at h
    by_cases h2 : (List.range (bnAt l 0).total.toNat).any (fun p => (lays l l.length p).isNone) = true
    · rw [if_pos h2] at h
      injection h with _ h3
      cases h3
    · rw [if_neg h2] at h
      injection h with h3 _
      refine ⟨lok_of h1, h3.symm, fun p hp => ?_⟩
      cases hc : lays l l.length p with
      | some z => rfl
      | none => exact absurd (List.any_eq_true.2 ⟨p, List.mem_range.2 hp, by rw [hc]; rfl⟩) h2
  · rw [if_pos h1] at h
    injection h with _ h3
    exact absurd h3 h1
theorem join_size {l : List Bn} {ms : ByteArray} (h : joinOf l = (ms, 0)) : ms.size = (bnAt l 0).total.toNat := by
  rw [(join_ok h).2.1]
  show (bysOf _ _).toArray.size = _
  rw [List.size_toArray, bysOf_len]

set_option maxRecDepth 100000 in
set_option maxHeartbeats 4000000 in
theorem fRefit_any (l : List Bn) (v : Value) (z : Int) (w : World) (hV : BnAt w v l) (hl : l.length ≤ 100000) :
    Calls Try.prog 25 #[v, .int .i64 z] w (RetBs (refitOf l z).1 (refitOf l z).2 w) := by
  have HV := Lib.hid hV
  obtain ⟨A, c, rfl, _, hc2, hR⟩ := hV
  have HR := Lib.hid hR
  clear hR
  obtain ⟨ms, je, hj⟩ : ∃ ms je, joinOf l = (ms, je) := ⟨_, _, rfl⟩
  have JC := Lib.hid (Join_any l _ w HV.out hl)
  rw [hj] at JC
  by_cases he : je = 0
  · subst he
    by_cases h2 : z < 1
    · have R : Hid (refitOf l z = ([], 2)) := Lib.hid (by unfold refitOf; rw [hj, if_neg (fun h => h rfl), if_pos (.inl h2)])
      clear hj
      go_enter Try.func25, Try.ntmps25
      go_wp2_with fail
      refine JC.out.mono ?_
      rintro e w1 ⟨rfl, hb1⟩
      clear JC
      go_wp2_with fail
      go_ret2
      rw [R.out]
      exact ⟨_, rfl, bnAt_nil _, hb1⟩
    · by_cases h3 : z > 1000
      · have R : Hid (refitOf l z = ([], 2)) := Lib.hid (by unfold refitOf; rw [hj, if_neg (fun h => h rfl), if_pos (.inr h3)])
        clear hj
        go_enter Try.func25, Try.ntmps25
        go_wp2_with fail
        refine JC.out.mono ?_
        rintro e w1 ⟨rfl, hb1⟩
        clear JC
        go_wp2_with fail
        go_ret2
        rw [R.out]
        exact ⟨_, rfl, bnAt_nil _, hb1⟩
      · obtain ⟨s, rfl⟩ : ∃ s : Nat, z = s := ⟨z.toNat, by omega⟩
        have hO := (join_ok hj).1
        have hln : 0 < l.length := by have := hO.ne; omega
        obtain ⟨y, hy⟩ : ∃ y, l[0]? = some y := ⟨_, List.getElem?_eq_getElem hln⟩
        have hyt := (hO.ok 0 hln).f.2.2.2.2
        have hms := join_size hj
        rw [bnAt_of hy] at hyt hms
        have R : Hid (refitOf l s = (fragsOf y ms s, 0)) := Lib.hid (by unfold refitOf; rw [hj, if_neg (fun h => h rfl), if_neg (by omega), bnAt_of hy, Int.toNat_natCast])
        have FR : Hid (∀ w, Calls Try.prog 33 #[.agg (BX y), .string ms, .int .i64 s] w fun e w' => ∃ v, e = .returned v ∧ BnAt w' v (fragsOf y ms s) ∧ Below w.heap.size w w') := Lib.hid (fragments_any y ms s (by omega) (by omega))
        have HY := Lib.hid hy
        have hl0 : (0 : Int) < l.length := by omega
        obtain ⟨L, hL⟩ : ∃ L, fragsOf y ms s = L := ⟨_, rfl⟩
        rw [hL] at FR R
        clear hj hO hy hyt hms hL
        go_enter Try.func25, Try.ntmps25
        go_wp2_with fail
        refine JC.out.mono ?_
        rintro e w1 ⟨rfl, hb1⟩
        clear JC
        obtain ⟨b, o, rfl, hb, q0', q1', q2', q3', q4', q5', q6', q7', q8'⟩ := reads_bn HR.out rfl HY.out
        have q0 := (hb1.cell (p := ⟨b, o + 0 * 9, none⟩) hb).trans q0'
        have q1 := (hb1.cell (p := ⟨b, o + 0 * 9 + 1, none⟩) hb).trans q1'
        have q2 := (hb1.cell (p := ⟨b, o + 0 * 9 + 2, none⟩) hb).trans q2'
        have q3 := (hb1.cell (p := ⟨b, o + 0 * 9 + 3, none⟩) hb).trans q3'
        have q4 := (hb1.cell (p := ⟨b, o + 0 * 9 + 4, none⟩) hb).trans q4'
        have q5 := (hb1.cell (p := ⟨b, o + 0 * 9 + 5, none⟩) hb).trans q5'
        have q6 := (hb1.cell (p := ⟨b, o + 0 * 9 + 6, none⟩) hb).trans q6'
        have q7 := (hb1.cell (p := ⟨b, o + 0 * 9 + 7, none⟩) hb).trans q7'
        have q8 := (hb1.cell (p := ⟨b, o + 0 * 9 + 8, none⟩) hb).trans q8'
        simp only [Nat.zero_mul, Nat.add_zero] at q0 q1 q2 q3 q4 q5 q6 q7 q8
        clear q0' q1' q2' q3' q4' q5' q6' q7' q8'
        go_wp2_with fail
        refine (FR.out _).mono ?_
        rintro e w2 ⟨v, rfl, hv, hb2⟩
        obtain ⟨A2, c2, rfl, _⟩ := id hv
        clear FR
        go_wp2_with fail
        go_ret2
        rw [R.out]
        exact ⟨_, rfl, hv, hb1.trans (hb2.mono hb1.size)⟩
  · have han : (je != 0) = true := by simpa using he
    have R : Hid (refitOf l z = ([], je)) := Lib.hid (by unfold refitOf; rw [hj, if_pos he])
    clear he hj
    go_enter Try.func25, Try.ntmps25
    go_wp2_with fail
    refine JC.out.mono ?_
    rintro e w1 ⟨rfl, hb1⟩
    clear JC
    go_wp2_with fail
    go_ret2
    rw [R.out]
    exact ⟨_, rfl, bnAt_nil _, hb1⟩
end Go.Proofs.Ytcifngefclgefaa
