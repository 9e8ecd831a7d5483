/- Contract: the message (the reference). -/
import Derived.Test.YtcifngefclgefaaJe
namespace Go.Proofs.Ytcifngefclgefaa
open Go.RowKit
set_option linter.unusedVariables false
set_option linter.unusedSimpArgs false

theorem mkU8 (n : Nat) : (madeCells #[.int .u8 0] n).toList = fl oneU (List.replicate n 0) := by
  refine List.ext_getElem? fun i => ?_
  by_cases h : i < n
  · rw [fl_oneU _ (by simpa using h)]
    unfold madeCells
    simp [h, Nat.mod_one]
  · rw [List.getElem?_eq_none (l := fl oneU _) (by rw [fl_len oneU1]; simp; omega)]
    unfold madeCells
    simp [h]
theorem mkBytes (w : World) (n : Nat) (hn : n ≤ 100000) : (Instr.makeSlice 66 (.int .i64 (n : Int)) (.int .i64 (n : Int))).run Try.prog w = .ok (.slice (some ⟨w.heap.size, 0, none⟩) n n) (w.alloc (.cells (madeCells #[.int .u8 0] n) 5)) := by
  obtain ⟨i0, hi, hz0, hz1, hz2⟩ := info_parts infoU
  have := run_make (P := Try.prog) w 66 5 i0 (.int .u8 0) Try.underlying66 hi hz0 .i64 .i64 n n (by omega) (Int.le_refl _) (by rw [hz2]; omega) (by omega)
  rw [hz1] at this
  simpa [Value.cells] using this
theorem mkOwnU (w : World) (n base : Nat) (hn : n ≤ 100000) (hb : base ≤ w.heap.size) : OwnU (w.alloc (.cells (madeCells #[.int .u8 0] n) 5)) base (.slice (some ⟨w.heap.size, 0, none⟩) n n) (List.replicate n 0) := by
  have := World.ownsRow_lit (base := base) (e := 5) (size := 1) w (madeCells #[.int .u8 0] n) n hb (by unfold maxLen; omega) (by rw [size_madeCells, Nat.mul_one])
  unfold OwnU
  rw [List.length_replicate, ← mkU8]
  exact this
/-- a byte stored -/
theorem ownU_set {w : World} {base g n c : Nat} {C : Nat → Option UInt8} (h : OwnU w base (.slice (some ⟨g, 0, none⟩) n c) (bysOf C n)) {q : Nat} (hq : q < n) (x : UInt8) : OwnU (w.setCell ⟨g, q, none⟩ (.int .u8 (x.toNat : Int))) base (.slice (some ⟨g, 0, none⟩) n c) (bysOf (putP C q x) n) := by
  unfold OwnU at h ⊢
  have hl := bysOf_len C n
  have hg : (bysOf C n)[q]? = some ((bysOf C n)[q]'(by rw [hl]; exact hq)) := List.getElem?_eq_getElem _
  rw [hl] at h
  have h' : w.ownsRow base 5 1 (.slice (some ⟨g, 0, none⟩) n c) n (fl oneU (bysOf C n)) := h
  have := own_store oneU1 h' q 0 (y := x) (u := .int .u8 (x.toNat : Int)) hg (by decide) rfl
  rw [bysOf_set] at this
  rw [bysOf_len]
  simpa using this
theorem join_yes {l : List Bn} (h : LOk l) {M : List Rg} {a : Int} (hm : rgsOf l false = (M, a)) (h0 : M.length = 0) : joinOf l = (⟨(bysOf (lays l l.length) (bnAt l 0).total.toNat).toArray⟩, 0) := by
  rw [join_mis h, hm, if_neg (by show ¬ 0 < M.length; omega)]
theorem join_no {l : List Bn} (h : LOk l) {M : List Rg} {a : Int} (hm : rgsOf l false = (M, a)) (h0 : ¬ M.length = 0) : joinOf l = (noB, 8) := by
  rw [join_mis h, hm, if_pos (by show 0 < M.length; omega)]

set_option maxRecDepth 100000 in
set_option maxHeartbeats 8000000 in
theorem rJoin_any (l : List Bn) (v : Value) (w : World) (hV : BnAt w v l) (hl : l.length ≤ 100000) :
    Calls Try.prog 24 #[v] w (RetSt (joinOf l).1 (joinOf l).2 w) := by
  have HV := Lib.hid hV
  obtain ⟨A, c, rfl, _, hc2, hR⟩ := hV
  have HR := Lib.hid hR
  clear hR
  obtain ⟨a, b, hab⟩ : ∃ a b, laidE l = (a, b) := ⟨_, _, rfl⟩
  have MI := Lib.hid (rMissing_any l _ w HV.out hl)
  have HAB := Lib.hid hab
  clear hab
  by_cases ha : a = 0
  · subst ha
    have HO := lok_of (l := l) (by rw [HAB.out])
    have hln : 0 < l.length := by have := HO.ne; omega
    obtain ⟨y, hy⟩ : ∃ y, l[0]? = some y := ⟨_, List.getElem?_eq_getElem hln⟩
    have hyt := (HO.ok 0 hln).f.2.2.2.2
    rw [bnAt_of hy] at hyt
    obtain ⟨T, hT⟩ : ∃ T : Nat, y.total = T := ⟨y.total.toNat, by omega⟩
    have hT2 : T ≤ 20000 := by omega
    have hT1 : 1 ≤ T := by omega
    obtain ⟨M, am, hM⟩ : ∃ M am, rgsOf l false = (M, am) := ⟨_, _, rfl⟩
    obtain rfl : am = 0 := by
      have := mis_of HO
      rw [hM] at this
      injection this
    have MI2 : Hid (Calls Try.prog 22 #[.slice A l.length c] w (RetRg M 0 w)) := Lib.hid (by have := MI.out; rw [hM] at this; exact this)
    obtain ⟨b', o', rfl, hb', _, _, _, _, _, _, _, q7, _⟩ := reads_bn HR.out rfl hy
    rw [hT] at q7
    simp only [Nat.zero_mul, Nat.add_zero] at q7
    have Q7 := Lib.hid q7
    have hl0 : (0 : Int) < l.length := by omega
    by_cases hM0 : M.length = 0
    · have HRES : Hid (joinOf l = (⟨(bysOf (lays l l.length) T).toArray⟩, 0)) := Lib.hid (by rw [join_yes HO hM hM0, bnAt_of hy, hT]; rfl)
      have HTB : Hid (∀ i, i < l.length → (bnAt l i).o + (bnAt l i).data.size ≤ T) := Lib.hid (fun i hi => by
        have h1 := HO.ok i hi
        have h2 := (bok_o h1).2.2
        have h3 := HO.kd i hi
        have h4 : (bnAt l i).total = (bnAt l 0).total := by
          have e1 : (bnAt l i).kd.total = (bnAt l 0).kd.total := by rw [h3]
          exact e1
        rw [h4, bnAt_of hy, hT] at h2
        omega)
      have HOK := Lib.hid HO
      have hmz : ¬ (0 : Int) < M.length := by omega
      rw [HRES.out]
      clear hy hyt hT HO q7 MI hM hM0
      go_enter Try.func24, Try.ntmps24
      go_wp2_with fail
      refine MI2.out.mono ?_
      rintro e w1 ⟨vm, rfl, hvm, hb1⟩
      obtain ⟨Am, cm, rfl, _⟩ := id hvm
      have HB := Lib.hid hb1
      have q7 := (hb1.cell (p := ⟨b', o' + 7, none⟩) hb').trans Q7.out
      have hmk := mkBytes w1 T (by omega)
      have hb1z := hb1.size
      have HO1 := Lib.hid (mkOwnU w1 T w1.heap.size (by omega) (Nat.le_refl _))
      clear MI2 hb1 hvm
      go_wp2_with fail
      clear hmk q7
      obtain ⟨g0, hg0⟩ : ∃ g0, w1.heap.size = g0 := ⟨_, rfl⟩
      have hwg : w.heap.size ≤ g0 := by omega
      have HB1 := Lib.hid (bal HB.out (.cells (madeCells #[.int .u8 0] T) 5))
      have hzz : (w1.alloc (.cells (madeCells #[.int .u8 0] T) 5)).heap.size = g0 + 1 := by rw [World.size_alloc, hg0]
      rw [hg0] at HO1 ⊢
      generalize w1.alloc (.cells (madeCells #[.int .u8 0] T) 5) = w2 at HO1 HB1 hzz ⊢
      clear hb1z HB hg0
      go_loopw [7] (fun s7 wr => ∃ i : Nat, i ≤ l.length ∧ s7 = .int .i64 i ∧ OwnU wr g0 (.slice (some ⟨g0, 0, none⟩) T T) (bysOf (lays l i) T) ∧ Below w.heap.size w wr ∧ g0 + 1 ≤ wr.heap.size) (fun s7 _ => l.length - (intOf s7).toNat)
      case atStart => exact ⟨0, by omega, rfl, by have := HO1.out; rw [← bysOf_zero] at this; exact this, HB1.out, by omega⟩
      case round =>
        obtain ⟨i, hi, rfl, hO, hB, hsz⟩ := hrel
        obtain ⟨wy, rfl⟩ : ∃ wy : World, wy = wr := ⟨_, rfl⟩
        have HO := Lib.hid hO
        have HBy := Lib.hid hB
        clear hO hB
        by_cases hil : i < l.length
        · obtain ⟨x, hx⟩ : ∃ x, l[i]? = some x := ⟨_, List.getElem?_eq_getElem hil⟩
          obtain ⟨b2, o2, e2, _, _, _, p2, _, _, _, _, _, p8⟩ := reads_bn HR.out rfl hx
          cases e2
          have hxo := HOK.out.ok i hil
          have htb := HTB.out i hil
          have HLY : Hid (lays l (i + 1) = layC (lays l i) x.o x.data x.data.size) := Lib.hid (by show layC _ _ _ _ = _; rw [bnAt_of hx])
          rw [bnAt_of hx] at hxo htb
          obtain ⟨ho1, ho2, _⟩ := bok_o hxo
          rw [ho1] at p2
          obtain ⟨xo, hxo'⟩ : ∃ xo, x.o = xo := ⟨_, rfl⟩
          obtain ⟨s, hs⟩ : ∃ s, x.data = s := ⟨_, rfl⟩
          rw [hxo'] at p2 HLY htb
          rw [hs] at p8 HLY htb
          have P2 := Lib.hid p2
          have P8 := Lib.hid p8
          have hii : (i : Int) < l.length := by omega
          have hi0 : (0 : Int) ≤ i := by omega
          clear hx p2 p8 hxo ho1 ho2 hxo' hs
          obtain ⟨C, hC⟩ : ∃ C, lays l i = C := ⟨_, rfl⟩
          rw [hC] at HO HLY
          clear hC
          go_wp2_with fail
          go_loopw [8] (fun s8 wr => ∃ k : Nat, k ≤ s.size ∧ s8 = .int .i64 k ∧ OwnU wr g0 (.slice (some ⟨g0, 0, none⟩) T T) (bysOf (layC C xo s k) T) ∧ Below w.heap.size w wr ∧ g0 + 1 ≤ wr.heap.size) (fun s8 _ => s.size - (intOf s8).toNat)
          case atStart => exact ⟨0, by omega, rfl, by rw [layC_zero]; exact HO.out, HBy.out, hsz⟩
          case round =>
            obtain ⟨k, hk, rfl, hO, hB, hsz2⟩ := hrel
            obtain ⟨wj, rfl⟩ : ∃ wj : World, wj = wr := ⟨_, rfl⟩
            have HOk := Lib.hid hO
            have HBk := Lib.hid hB
            have d2 := (hB.cell (p := ⟨b', o' + i * 9 + 2, none⟩) hb').trans P2.out
            have d8 := (hB.cell (p := ⟨b', o' + i * 9 + 8, none⟩) hb').trans P8.out
            clear hO hB
            by_cases hks : k < s.size
            · have hki : (k : Int) < s.size := by omega
              have hk0 : (0 : Int) ≤ k := by omega
              obtain ⟨q, hq⟩ : ∃ q, xo + k = q := ⟨_, rfl⟩
              have hqT : q < T := by omega
              have hqi : (q : Int) < T := by omega
              have hq0 : (0 : Int) ≤ q := by omega
              have WS : IntKind.i64.wrap ((xo : Int) + k) = (q : Int) := by rw [← hq, Int.natCast_add]; exact IntWalk.i64_in _ (by omega)
              have hfr := World.ownsRow.frozenAt (show wj.ownsRow g0 5 1 (.slice (some ⟨g0, 0, none⟩) T T) T (fl oneU (bysOf (layC C xo s k) T)) from by have := HOk.out; unfold OwnU at this; rwa [bysOf_len] at this) q
              have hcl : (bysOf (layC C xo s k) T)[q]? = some ((bysOf (layC C xo s k) T)[q]'(by rw [bysOf_len]; exact hqT)) := List.getElem?_eq_getElem _
              have hce := own_cell oneU1 (show wj.ownsRow g0 5 1 (.slice (some ⟨g0, 0, none⟩) T T) T (fl oneU (bysOf (layC C xo s k) T)) from by have := HOk.out; unfold OwnU at this; rwa [bysOf_len] at this) q 0 hcl (by decide)
              rw [Nat.mul_one, Nat.add_zero] at hce
              replace hce := hce.trans (show _ = some (Value.int .u8 ((((bysOf (layC C xo s k) T)[q]'(by rw [bysOf_len]; exact hqT)).toNat : Nat) : Int)) from rfl)
              obtain ⟨zz, hzz'⟩ : ∃ zz, (bysOf (layC C xo s k) T)[q]'(by rw [bysOf_len]; exact hqT) = zz := ⟨_, rfl⟩
              rw [hzz'] at hce
              clear hcl hzz'
              have HST : Hid (∀ n, OwnU ((wj.drewN n).setCell ⟨g0, q, none⟩ (.int .u8 ((byt s k).toNat : Int))) g0 (.slice (some ⟨g0, 0, none⟩) T T) (bysOf (layC C xo s (k + 1)) T)) := Lib.hid (fun n => by
                have := ownU_set (w := wj.drewN n) (C := layC C xo s k) HOk.out hqT (byt s k)
                rw [← hq, layC_put] at this
                rw [← hq]
                exact this)
              rw [byt_at hks] at HST
              have hwq : w.heap.size ≤ g0 := hwg
              clear hq
              go_upto_region 13 with fail
              go_region
              all_goals
                go_wp2_with fail
                go_roundw
                case rel => exact ⟨k + 1, by omega, by go_num, HST.out _, (below_drewN HBk.out _).setCell (p := ⟨g0, q, none⟩) hwq _, by simp; omega⟩
                case measure => simp [intOf]; omega
            · obtain rfl : k = s.size := by omega
              go_wp2_with fail
              go_roundw
              case rel => exact ⟨i + 1, by omega, by go_num, by rw [HLY.out]; exact HOk.out, HBk.out, hsz2⟩
              case measure => simp [intOf]; omega
        · obtain rfl : i = l.length := by omega
          have hO' : OwnU wy g0 (.slice (some ⟨g0, 0, none⟩) (bysOf (lays l l.length) T).length T) (bysOf (lays l l.length) T) := by rw [bysOf_len]; exact HO.out
          have hcv := str_own hO' (by rw [bysOf_len]; omega)
          rw [bysOf_len] at hcv
          clear hO'
          go_wp2_with fail
          go_ret2
          exact ⟨rfl, HBy.out⟩
    · have HRES : Hid (joinOf l = (noB, 8)) := Lib.hid (join_no HO hM hM0)
      have hmz : (0 : Int) < M.length := by omega
      rw [HRES.out]
      clear hy hyt hT HO q7 MI hM hM0
      go_enter Try.func24, Try.ntmps24
      go_wp2_with fail
      refine MI2.out.mono ?_
      rintro e w1 ⟨vm, rfl, hvm, hb1⟩
      obtain ⟨Am, cm, rfl, _⟩ := id hvm
      clear MI2 hvm
      go_wp2_with fail
      go_ret2
      exact ⟨rfl, hb1⟩
  · have han : (a != 0) = true := by simpa using ha
    have HRES : Hid (joinOf l = (noB, a)) := Lib.hid (by unfold joinOf; rw [HAB.out, if_pos ha])
    have HRET : Hid (rgsOf l false = ([], a)) := Lib.hid (by unfold rgsOf; rw [HAB.out, if_pos ha])
    have MI2 : Hid (Calls Try.prog 22 #[.slice A l.length c] w (RetRg [] a w)) := Lib.hid (by have := MI.out; rw [HRET.out] at this; exact this)
    rw [HRES.out]
    clear ha MI
    go_enter Try.func24, Try.ntmps24
    go_wp2_with fail
    refine MI2.out.mono ?_
    rintro e w1 ⟨vm, rfl, hvm, hb1⟩
    obtain ⟨Am, cm, rfl, _⟩ := id hvm
    clear MI2 hvm
    go_wp2_with fail
    go_ret2
    exact ⟨rfl, hb1⟩
end Go.Proofs.Ytcifngefclgefaa
