/- Contracts: what is covered, what is missing, the message (the program). -/
import Derived.Test.YtcifngefclgefaaJ
import Derived.Laws.IdiomStrings
namespace Go.Proofs.Ytcifngefclgefaa
open Go.RowKit
set_option linter.unusedVariables false
set_option linter.unusedSimpArgs false

set_option maxRecDepth 100000 in
set_option maxHeartbeats 2000000 in
theorem Covered_any (l : List Bn) (v : Value) (w : World) (hV : BnAt w v l) (hl : l.length ≤ 100000) :
    Calls Try.prog 18 #[v] w (RetRg (rgsOf l true).1 (rgsOf l true).2 w) := by
  have C := Lib.hid (ranges_any l true v w hV hl)
  obtain ⟨A, c, rfl, _, hc2, hR⟩ := hV
  clear hR
  obtain ⟨a, b, hab⟩ : ∃ a b, rgsOf l true = (a, b) := ⟨_, _, rfl⟩
  rw [hab] at C ⊢
  clear hab
  dsimp only at C ⊢
  go_enter Try.func18, Try.ntmps18
  go_wp2_with fail
  refine C.out.mono ?_
  rintro e w1 ⟨x, rfl, hx, hb1⟩
  obtain ⟨A1, c1, rfl, _⟩ := id hx
  clear C
  go_wp2_with fail
  go_ret2
  exact ⟨_, rfl, hx, hb1⟩
set_option maxRecDepth 100000 in
set_option maxHeartbeats 2000000 in
theorem Missing_any (l : List Bn) (v : Value) (w : World) (hV : BnAt w v l) (hl : l.length ≤ 100000) :
    Calls Try.prog 21 #[v] w (RetRg (rgsOf l false).1 (rgsOf l false).2 w) := by
  have C := Lib.hid (ranges_any l false v w hV hl)
  obtain ⟨A, c, rfl, _, hc2, hR⟩ := hV
  clear hR
  obtain ⟨a, b, hab⟩ : ∃ a b, rgsOf l false = (a, b) := ⟨_, _, rfl⟩
  rw [hab] at C ⊢
  clear hab
  dsimp only at C ⊢
  go_enter Try.func21, Try.ntmps21
  go_wp2_with fail
  refine C.out.mono ?_
  rintro e w1 ⟨x, rfl, hx, hb1⟩
  obtain ⟨A1, c1, rfl, _⟩ := id hx
  clear C
  go_wp2_with fail
  go_ret2
  exact ⟨_, rfl, hx, hb1⟩
/-- the bytes of a canvas -/
def bysOf (C : Nat → Option UInt8) (n : Nat) : List UInt8 := (List.range n).map fun p => (C p).getD 0
theorem bysOf_succ (C : Nat → Option UInt8) (n : Nat) : bysOf C (n + 1) = bysOf C n ++ [(C n).getD 0] := by
  unfold bysOf
  rw [List.range_succ, List.map_append]; rfl
theorem bysOf_len (C : Nat → Option UInt8) (n : Nat) : (bysOf C n).length = n := by simp [bysOf]
def noB : ByteArray := ⟨#[]⟩
/-- the message of bundles, or the error -/
def joinOf (l : List Bn) : ByteArray × Int := if (laidE l).1 ≠ 0 then (noB, (laidE l).1) else if (List.range (bnAt l 0).total.toNat).any (fun p => (lays l l.length p).isNone) = true then (noB, 8) else (⟨(bysOf (lays l l.length) (bnAt l 0).total.toNat).toArray⟩, 0)
def RetSt (s : ByteArray) (er : Int) (w : World) (e : Ending) (w' : World) : Prop := e = .returned (.tuple #[.string s, .int .i64 er]) ∧ Below w.heap.size w w'
def oneU (b : UInt8) : List Value := [.int .u8 (b.toNat : Int)]
theorem oneU1 (b : UInt8) : (oneU b).length = 1 := rfl
theorem oneU_one : ∀ b : UInt8, ∀ u ∈ oneU b, u.oneCell' = true := by intro b u hu; simp [oneU] at hu; subst hu; rfl
theorem infoU : (Try.prog.info? 5).map (fun i => (i.zero, i.size, i.bytes)) = some (some (.int .u8 0), 1, 1) := by kernel_rfl
def OwnU (w : World) (base : Nat) (v : Value) (L : List UInt8) : Prop := w.ownsRow base 5 1 v L.length (fl oneU L)
theorem OwnU.form {w : World} {base : Nat} {v : Value} {L : List UInt8} (h : OwnU w base v L) : ∃ A c, v = .slice A L.length c := by
  obtain ⟨A, c, rfl, _⟩ := SlAt.own h
  exact ⟨A, c, rfl⟩
theorem fl_oneU (L : List UInt8) {i : Nat} (h : i < L.length) : (fl oneU L)[i]? = some (.int .u8 (L[i].toNat : Int)) := by
  have := fl_get oneU1 L i (List.getElem?_eq_getElem h) 0 (by decide)
  simpa [oneU] using this
/-- the string of the bytes -/
theorem str_own {w : World} {base c : Nat} {A : Option Addr} {L : List UInt8} (h : OwnU w base (.slice A L.length c) L) (h0 : 0 < L.length) : (convert 66 9 (.slice A L.length c)).run Try.prog w = .ok (.string ⟨L.toArray⟩) w := by
  obtain ⟨A', c', e, _, _, hR⟩ := SlAt.own h
  cases e
  obtain ⟨b, o, rfl, hb, hc⟩ := hR.2 h0
  refine run_convert_bytes_back (P := Try.prog) w 66 9 5 ⟨b, o, none⟩ c L Try.underlying66 Try.underlying5 Try.underlying9 fun j hj => ?_
  have := hc j _ (fl_oneU L hj)
  by_cases hz : j = 0
  · subst hz; simpa [Addr.add] using this
  · simpa [Addr.add, hz] using this

set_option maxRecDepth 100000 in
set_option maxHeartbeats 8000000 in
theorem Join_any (l : List Bn) (v : Value) (w : World) (hV : BnAt w v l) (hl : l.length ≤ 100000) :
    Calls Try.prog 23 #[v] w (RetSt (joinOf l).1 (joinOf l).2 w) := by
  have HV := Lib.hid hV
  obtain ⟨A, c, rfl, _, hc2, hR⟩ := hV
  have HR := Lib.hid hR
  clear hR
  obtain ⟨a, b, hab⟩ : ∃ a b, laidE l = (a, b) := ⟨_, _, rfl⟩
  have CL := Lib.hid (laid_to hab _ w HV.out hl)
  have HAB := Lib.hid hab
  clear hab
  by_cases ha : a = 0
  · subst ha
    have HO := lok_of (l := l) (by rw [HAB.out])
    have hln : 0 < l.length := by have := HO.ne; omega
    obtain ⟨y, hy⟩ : ∃ y, l[0]? = some y := ⟨_, List.getElem?_eq_getElem hln⟩
    have hyt := (HO.ok 0 hln).f.2.2.2.2
    rw [bnAt_of hy] at hyt
    obtain ⟨T, hT⟩ : ∃ T : Nat, y.total = T := ⟨y.total.toNat, by omega⟩
    have hT2 : T ≤ 20000 := by omega
    have hT1 : 1 ≤ T := by omega
    obtain ⟨CC, hCC⟩ : ∃ CC, CC = lays l l.length := ⟨_, rfl⟩
    have HRES : Hid (joinOf l = if (List.range T).any (fun p => (CC p).isNone) = true then (noB, 8) else (⟨(bysOf CC T).toArray⟩, 0)) := Lib.hid (by unfold joinOf; rw [HAB.out, if_neg (fun h => h rfl), bnAt_of hy, hT, ← hCC]; rfl)
    have HCC := Lib.hid hCC
    obtain ⟨b', o', rfl, hb', _, _, _, _, _, _, _, q7, _⟩ := reads_bn HR.out rfl hy
    rw [hT] at q7
    have Q7 := Lib.hid q7
    have hl0 : (0 : Int) < l.length := by omega
    obtain ⟨rs, re, hr⟩ : ∃ rs re, joinOf l = (rs, re) := ⟨_, _, rfl⟩
    have HIF : Hid ((rs, re) = if (List.range T).any (fun p => (CC p).isNone) = true then (noB, 8) else (⟨(bysOf CC T).toArray⟩, 0)) := Lib.hid (by rw [← hr]; exact HRES.out)
    rw [hr]
    dsimp only
    clear hy hyt hT HO q7 hCC HRES hr
    go_enter Try.func23, Try.ntmps23
    go_wp2_with fail
    refine CL.out.mono ?_
    rintro e w1 ⟨gc, G, C, rfl, hC, hCe, hgc, hb1⟩
    replace hCe := hCe rfl
    rw [← HCC.out] at hCe
    subst hCe
    have HC := Lib.hid hC
    have q7 := (hb1.cell (p := ⟨b', o' + 0 * 9 + 7, none⟩) hb').trans Q7.out
    simp only [Nat.zero_mul, Nat.add_zero] at q7
    have HB := Lib.hid hb1
    clear CL hC hb1
    go_wp2_with fail
    go_loopw [7, 24] (fun s7 s24 wr => ∃ k : Nat, k ≤ T ∧ s24 = .int .i64 k ∧ (∀ j, j < k → (C j).isSome = true) ∧ OwnU wr w1.heap.size s7 (bysOf C k) ∧ (∃ G, CanG wr gc G C) ∧ Below w.heap.size w wr ∧ w1.heap.size ≤ wr.heap.size) (fun _ s24 _ => T - (intOf s24).toNat)
    case atStart => exact ⟨0, by omega, rfl, fun j hj => by omega, World.ownsRow_nil _ _ _ _, ⟨_, HC.out⟩, HB.out, Nat.le_refl _⟩
    case round =>
      obtain ⟨k, hk, rfl, hall, hO, ⟨G1, hG1⟩, hB, hsz⟩ := hrel
      obtain ⟨wy, rfl⟩ : ∃ wy : World, wy = wr := ⟨_, rfl⟩
      obtain ⟨Ao, co, rfl⟩ := hO.form
      have HO := Lib.hid hO
      have HG1 := Lib.hid hG1
      have HBy := Lib.hid hB
      have HALL := Lib.hid hall
      clear hO hG1 hB q7 hall
      by_cases hlt : k < T
      · have hki : (k : Int) < T := by omega
        have hk0 : (0 : Int) ≤ k := by omega
        go_wp2_with fail
        refine (at_to gc k (by omega) rfl G1 _ _ HG1.out).mono ?_
        rintro e w2 ⟨g, G2, rfl, hC2, hg2, ho2⟩
        obtain ⟨j, hj⟩ : ∃ j, k / 1024 = j := ⟨_, rfl⟩
        obtain ⟨m, hm⟩ : ∃ m, k % 1024 = m := ⟨_, rfl⟩
        rw [hj] at hg2
        rw [hm]
        have hj20 : j < 20 := by omega
        have hm1 : m < 1024 := by omega
        have hmi : (m : Int) < 1024 := by omega
        have hm0 : (0 : Int) ≤ m := by omega
        obtain ⟨e1, e2, _, _⟩ := hC2.has j m g hj20 hm1 hg2
        rw [show j * 1024 + m = k by omega] at e1 e2
        have hap := HG1.out.apart HO.out (by decide) (by decide)
        have hO2 : OwnU w2 w1.heap.size (.slice Ao (bysOf C k).length co) (bysOf C k) := own_only HO.out ho2 (fun g e c => by have : g = gc := c; rw [this] at e; exact hap.1 e)
        have hB2 : Below w.heap.size w w2 := HBy.out.trans (ho2.to_below (fun c e => by have : c = gc := e; omega) HBy.out.size)
        have hs2 := ho2.size
        have HO2 := Lib.hid hO2
        have HC2 := Lib.hid hC2
        have HB2 := Lib.hid hB2
        have hs2w : w1.heap.size ≤ w2.heap.size := by omega
        clear hg2 hC2 hO2 hB2 ho2 hj hm hap
        cases hck : C k with
        | none =>
          have HN : Hid ((List.range T).any (fun p => (C p).isNone) = true) := Lib.hid (List.any_eq_true.2 ⟨k, List.mem_range.2 hlt, by rw [hck]; rfl⟩)
          rw [hck] at e1
          have e1' : w2.cell? ⟨g, 1024 + m, none⟩ = some (.bool false) := e1
          clear e1 e2 hck
          go_wp2_with fail
          go_ret2
          have hif := HIF.out
          rw [if_pos HN.out] at hif
          injection hif with h1 h2
          rw [h1, h2]
          exact ⟨rfl, HB2.out⟩
        | some x =>
          rw [hck] at e1 e2
          have e1' : w2.cell? ⟨g, 1024 + m, none⟩ = some (.bool true) := e1
          have e2' : w2.cell? ⟨g, m, none⟩ = some (.int .u8 (x.toNat : Int)) := e2
          have HX := Lib.hid hck
          have HS : Hid (bysOf C (k + 1) = bysOf C k ++ [x]) := Lib.hid (by rw [bysOf_succ, hck]; rfl)
          obtain ⟨L, hL⟩ : ∃ L, L = bysOf C k := ⟨_, rfl⟩
          have hLk : L.length = k := by rw [hL, bysOf_len]
          have HLK := Lib.hid hLk
          rw [← hL] at HS HO2 ⊢
          have hapc := HC2.out.apart HO2.out (by decide) (by decide)
          have HAPC := Lib.hid hapc
          have l1 : (L.length + 1) * 1 ≤ 140737488355328 := by omega
          have l2 : L.length + 1 ≤ maxLen := by unfold maxLen; omega
          clear e1 e2 hck hL hLk hapc HO HG1 HBy
          go_upto_region 11 with fail
          go_wp2_with (at_builtin; refine wpList_app1n (f := oneU) rfl _ _ 66 rfl w1.heap.size 5 1 1 infoU rfl (by decide) Try.underlying66 oneU1 oneU_one w2 w w.heap.size x L _ (by rfl) (by rfl) HO2.out HB2.out HB.out.size hs2w l1 l2 ?_)
          intro A3 c3 w3 hown3 hB3 hg3 _
          have HC3 := Lib.hid ((HC2.out.alloc _).grown hg3 HAPC.out)
          have HO3 := Lib.hid hown3
          have hs3 := hg3.size
          clear hown3 hg3
          go_wp2_with fail
          go_roundw
          case rel =>
            refine ⟨k + 1, by omega, by go_num, fun i hi => ?_, (by rw [HS.out]; unfold OwnU; rw [List.length_append, List.length_singleton]; exact HO3.out), ⟨G2, HC3.out⟩, hB3, by simp at hs3; omega⟩
            rcases Nat.lt_or_eq_of_le (Nat.le_of_lt_succ hi) with d | d
            · exact HALL.out i d
            · rw [d, HX.out]; rfl
          case measure => simp [intOf]; omega
      · obtain rfl : k = T := by omega
        have HN : Hid ((List.range k).any (fun p => (C p).isNone) = false) := Lib.hid (by
          rw [Bool.eq_false_iff]
          intro c
          obtain ⟨p, hp, hpn⟩ := List.any_eq_true.1 c
          have := HALL.out p (List.mem_range.1 hp)
          cases hc : C p with
          | none => rw [hc] at this; cases this
          | some z => rw [hc] at hpn; cases hpn)
        have hcv := str_own HO.out (by rw [bysOf_len]; omega)
        go_wp2_with fail
        go_ret2
        have hif := HIF.out
        rw [HN.out, if_neg (by decide)] at hif
        injection hif with h1 h2
        rw [h1, h2]
        exact ⟨rfl, HBy.out⟩
  · have han : (a != 0) = true := by simpa using ha
    have HRES : Hid (joinOf l = (noB, a)) := Lib.hid (by unfold joinOf; rw [HAB.out, if_pos ha])
    rw [HRES.out]
    clear ha
    go_enter Try.func23, Try.ntmps23
    go_wp2_with fail
    refine CL.out.mono ?_
    rintro e w1 ⟨gc, G, C, rfl, _, _, _, hb1⟩
    clear CL
    go_wp2_with fail
    go_ret2
    exact ⟨rfl, hb1⟩
end Go.Proofs.Ytcifngefclgefaa
