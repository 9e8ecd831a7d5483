/- Contracts: peers checked, what is held back. Contracts: limits, IDs, bundles. -/
import Derived.Test.YtfgkkflbpfocjaaZc17
import Derived.Test.YtfgkkflbpfocjaaZc4
import Derived.Test.YtfgkkflbpfocjaaZc6
import Derived.Laws.StructEq
namespace Go.Proofs.Ytfgkkflbpfocjaa
open Go.RowKit
set_option linter.unusedVariables false
set_option linter.unusedSimpArgs false

set_option maxRecDepth 100000 in
set_option maxHeartbeats 8000000 in
theorem pCheck_any (p : Pr) (hw : WfP p) (V : Value) (w : World) (hV : PrAt w V p) : Calls Try.prog 20 #[V] w (RetI .i64 (chkP p) w) := by
  obtain ⟨vs, vt, vk, rfl, hs, ht, hk⟩ := hV
  obtain ⟨As, cs, rfl⟩ := hs.form
  obtain ⟨At, ct, rfl⟩ := ht.form
  obtain ⟨Ak, ck, rfl⟩ := hk.form
  have HS := Lib.hid hs
  have HT := Lib.hid ht
  have HK := Lib.hid hk
  have SC := Lib.hid (fun v w h => Check_any p.s hw.s v w h)
  have RC := Lib.hid (fun vt vk w h1 h2 => vCheck_any p.r hw.r vt vk w h1 h2)
  obtain ⟨es, hes⟩ : ∃ es, (chk p.s).1 = es := ⟨_, rfl⟩
  obtain ⟨es2, hes2⟩ : ∃ es, (chk p.s).2 = es := ⟨_, rfl⟩
  obtain ⟨er, her⟩ : ∃ er, (chkR p.r).1 = er := ⟨_, rfl⟩
  obtain ⟨er2, her2⟩ : ∃ er : Int, (((chkR p.r).2 : Nat) : Int) = er := ⟨_, rfl⟩
  have SC2 : Hid (∀ v w, SlsAt w v p.s.sl → Calls Try.prog 60 #[.agg #[.int .u64 p.s.g, .int .u64 p.s.n, .int .u64 p.s.r, v]] w (Ret2 .i64 .i64 es es2 w)) := Lib.hid (fun v w h => by have := SC.out v w h; rw [hes, hes2] at this; exact this)
  have RC2 : Hid (∀ vt vk w, RgsAt w vt p.r.tk → KpsAt w vk p.r.kp → Calls Try.prog 61 #[.agg #[.int .u64 p.r.g, .int .u64 p.r.r, .int .u64 p.r.fl, vt, vk]] w (Ret2 .i64 .i64 er er2 w)) := Lib.hid (fun vt vk w h1 h2 => by have := RC.out vt vk w h1 h2; rw [her, her2] at this; exact this)
  obtain ⟨cp, hcp⟩ : ∃ cp, chkP p = cp := ⟨_, rfl⟩
  have CP : Hid (cp = if p.out then 2 else if es ≠ 0 then es else if er ≠ 0 then er else if p.theirs = 0 ∧ ¬ p.empty then 12 else 0) := Lib.hid (by rw [← hcp, ← hes, ← her]; rfl)
  rw [hcp]
  clear hs ht hk hes hes2 her her2 hcp SC RC hw
  obtain ⟨node, th, su, old, ⟨g, n, r, S⟩, ⟨a, b, f, T, K⟩⟩ := p
  dsimp only at *
  have EM := Lib.hid (fun w => pempty_any node th old su g n r S a b f T K As At Ak cs ct ck w)
  obtain ⟨ee, hee⟩ : ∃ ee, decide (Pr.empty ⟨node, th, su, old, ⟨g, n, r, S⟩, ⟨a, b, f, T, K⟩⟩) = ee := ⟨_, rfl⟩
  have EE := Lib.hid hee
  rw [hee] at EM
  clear hee

  by_cases o0 : node < 1
  case pos =>
    have R := Lib.hid (CP.out.trans (if_pos (show Pr.out ⟨node, th, su, old, ⟨g, n, r, S⟩, ⟨a, b, f, T, K⟩⟩ from .inl o0)))
    go_enter Try.func20, Try.ntmps20
    go_wp2_with fail
    go_ret
    exact ⟨by rw [R.out]; rfl, (by repeat (first | with_reducible exact Below.refl _ _ | with_reducible refine Below.drew ?_ | with_reducible refine below_drewN ?_ _ | with_reducible refine bal ?_ _ | with_reducible refine bset ?_ (by first | (simp; done) | (simp; omega)) _ | with_reducible refine bnext ?_ (by assumption) | with_reducible assumption))⟩
  by_cases o1 : node > 16
  case pos =>
    have R := Lib.hid (CP.out.trans (if_pos (show Pr.out ⟨node, th, su, old, ⟨g, n, r, S⟩, ⟨a, b, f, T, K⟩⟩ from .inr (.inl o1))))
    go_enter Try.func20, Try.ntmps20
    go_wp2_with fail
    go_ret
    exact ⟨by rw [R.out]; rfl, (by repeat (first | with_reducible exact Below.refl _ _ | with_reducible refine Below.drew ?_ | with_reducible refine below_drewN ?_ _ | with_reducible refine bal ?_ _ | with_reducible refine bset ?_ (by first | (simp; done) | (simp; omega)) _ | with_reducible refine bnext ?_ (by assumption) | with_reducible assumption))⟩
  by_cases o2 : th > 1099511627776
  case pos =>
    have R := Lib.hid (CP.out.trans (if_pos (show Pr.out ⟨node, th, su, old, ⟨g, n, r, S⟩, ⟨a, b, f, T, K⟩⟩ from .inr (.inr (.inl o2)))))
    go_enter Try.func20, Try.ntmps20
    go_wp2_with fail
    go_ret
    exact ⟨by rw [R.out]; rfl, (by repeat (first | with_reducible exact Below.refl _ _ | with_reducible refine Below.drew ?_ | with_reducible refine below_drewN ?_ _ | with_reducible refine bal ?_ _ | with_reducible refine bset ?_ (by first | (simp; done) | (simp; omega)) _ | with_reducible refine bnext ?_ (by assumption) | with_reducible assumption))⟩
  by_cases o3 : old > 1125899906842624
  case pos =>
    have R := Lib.hid (CP.out.trans (if_pos (show Pr.out ⟨node, th, su, old, ⟨g, n, r, S⟩, ⟨a, b, f, T, K⟩⟩ from .inr (.inr (.inr o3)))))
    go_enter Try.func20, Try.ntmps20
    go_wp2_with fail
    go_ret
    exact ⟨by rw [R.out]; rfl, (by repeat (first | with_reducible exact Below.refl _ _ | with_reducible refine Below.drew ?_ | with_reducible refine below_drewN ?_ _ | with_reducible refine bal ?_ _ | with_reducible refine bset ?_ (by first | (simp; done) | (simp; omega)) _ | with_reducible refine bnext ?_ (by assumption) | with_reducible assumption))⟩
  have CP1 := Lib.hid (CP.out.trans (if_neg (show ¬ Pr.out ⟨node, th, su, old, ⟨g, n, r, S⟩, ⟨a, b, f, T, K⟩⟩ from fun h => h.elim o0 (fun h => h.elim o1 (fun h => h.elim o2 o3)))))
  clear CP
  go_enter Try.func20, Try.ntmps20
  go_wp2_with fail
  have k0 := Blk.new w 31 #[.int .i64 node, .int .u64 th, .bool su, .int .u64 old, .int .u64 g, .int .u64 n, .int .u64 r, .slice As S.length cs, .int .u64 a, .int .u64 b, .int .u64 f, .slice At T.length ct, .slice Ak K.length ck]
  have hB := bal (Below.refl w.heap.size w) (.cells #[.int .i64 node, .int .u64 th, .bool su, .int .u64 old, .int .u64 g, .int .u64 n, .int .u64 r, .slice As S.length cs, .int .u64 a, .int .u64 b, .int .u64 f, .slice At T.length ct, .slice Ak K.length ck] 31)
  refine (SC2.out _ _ (HS.out.below hB)).mono ?_
  rintro e w1 ⟨rfl, hb1⟩
  have kk : BK w w.heap.size 31 #[.int .i64 node, .int .u64 th, .bool su, .int .u64 old, .int .u64 g, .int .u64 n, .int .u64 r, .slice As S.length cs, .int .u64 a, .int .u64 b, .int .u64 f, .slice At T.length ct, .slice Ak K.length ck] w1 := ⟨k0.below hb1, bnext hB hb1⟩
  clear k0 hB hb1 SC2
  obtain ⟨g0, hg0⟩ : ∃ g0, w.heap.size = g0 := ⟨_, rfl⟩
  have HG0 := Lib.hid hg0
  rw [hg0] at kk ⊢
  clear hg0
  obtain ⟨x0, x1, x2, x3, x4, x5, x6, x7, x8, x9, x10, x11, x12⟩ := kk.b.c13
  have hl0 := kk.b.lt
  have K1 := Lib.hid kk
  clear kk
  by_cases s0 : es = 0
  case neg =>
    have R := Lib.hid (CP1.out.trans (if_pos s0))
    have sb : (es != 0) = true := by simpa using s0
    have sb' : (es == 0) = false := by simpa using s0
    clear s0
    go_wp2_with fail
    go_ret
    exact ⟨by rw [R.out]; rfl, K1.out.hB⟩
  have CP2 := Lib.hid (CP1.out.trans (if_neg (fun h => h s0)))
  subst s0
  go_wp2_with fail
  refine (RC2.out _ _ _ (HT.out.below K1.out.hB) (HK.out.below K1.out.hB)).mono ?_
  rintro e w2 ⟨rfl, hb2⟩
  have kk := K1.out.below hb2
  clear hb2 RC2 x0 x1 x2 x3 x4 x5 x6 x7 x8 x9 x10 x11 x12 hl0 K1 CP1
  obtain ⟨x0, x1, x2, x3, x4, x5, x6, x7, x8, x9, x10, x11, x12⟩ := kk.b.c13
  have hl0 := kk.b.lt
  have K1 := Lib.hid kk
  clear kk
  by_cases r0 : er = 0
  case neg =>
    have R := Lib.hid (CP2.out.trans (if_pos r0))
    have sb : (er != 0) = true := by simpa using r0
    have sb' : (er == 0) = false := by simpa using r0
    clear r0
    go_wp2_with fail
    go_ret
    exact ⟨by rw [R.out]; rfl, K1.out.hB⟩
  have CP3 := Lib.hid (CP2.out.trans (if_neg (fun h => h r0)))
  subst r0
  clear CP2
  by_cases t0 : th = 0
  case neg =>
    have R := Lib.hid (CP3.out.trans (if_neg (fun h => t0 h.1)))
    have sb : (th == 0) = false := beq_eq_false_iff_ne.2 t0
    clear t0
    go_wp2_with fail
    go_ret
    exact ⟨by rw [R.out]; rfl, K1.out.hB⟩
  have tb : (th == 0) = true := by simp [t0]
  have T0 := Lib.hid t0
  clear t0
  go_wp2_with fail
  refine (EM.out _).mono ?_
  rintro e w3 ⟨rfl, hb3⟩
  have HB := Lib.hid (bnext K1.out.hB hb3)
  clear hb3 x0 x1 x2 x3 x4 x5 x6 x7 x8 x9 x10 x11 x12 hl0 K1 EM
  cases ee with
  | true =>
    have R : Hid (cp = 0) := Lib.hid (CP3.out.trans (if_neg (fun h => h.2 (of_decide_eq_true EE.out))))
    go_wp2_with fail
    go_ret
    exact ⟨by rw [R.out]; rfl, HB.out⟩
  | false =>
    have R : Hid (cp = 12) := Lib.hid (CP3.out.trans (if_pos ⟨T0.out, of_decide_eq_false EE.out⟩))
    go_wp2_with fail
    go_ret
    exact ⟨by rw [R.out]; rfl, HB.out⟩

theorem opnR_of {z : Rec} (h : okR z) : opnR z = z := if_pos h
theorem chkP_r {p : Pr} (h : chkP p = 0) : okR p.r := (chkP_ok h).2.2.1

set_option maxRecDepth 100000 in
set_option maxHeartbeats 8000000 in
theorem pheld_any (p : Pr) (hw : WfP p) (hok : chkP p = 0) (V : Value) (w : World) (hV : PrAt w V p) : Calls Try.prog 41 #[V] w (fun e w' => e = .returned (.tuple #[.int .u64 (heldP p), .bool true]) ∧ Below w.heap.size w w') := by
  obtain ⟨vs, vt, vk, rfl, hs, ht, hk⟩ := hV
  obtain ⟨As, cs, rfl⟩ := hs.form
  obtain ⟨At, ct, rfl⟩ := ht.form
  obtain ⟨Ak, ck, rfl⟩ := hk.form
  have HT := Lib.hid ht
  have HK := Lib.hid hk
  have hb := heldP_b hw hok
  have ho := okR_of (chkP_r hok)
  have hrb := resv_b ho hw.r.fl.1 hw.r.r.1
  have hg := ho.g
  have hob := hw.old
  have HH : Hid (heldP p = p.old + resv p.r) := Lib.hid rfl
  have RS : Hid (∀ vt vk w, RgsAt w vt p.r.tk → KpsAt w vk p.r.kp → Calls Try.prog 78 #[.agg #[.int .u64 p.r.g, .int .u64 p.r.r, .int .u64 p.r.fl, vt, vk]] w (Ret2 .u64 .i64 (resv p.r) 0 w)) := Lib.hid (fun vt vk w h1 h2 => by
    have := Reserved_any p.r hw.r vt vk w h1 h2
    rw [opnR_of (chkP_r hok), show (chkR p.r).1 = 0 from chkP_r hok] at this
    exact this)
  obtain ⟨rv, hrv⟩ : ∃ rv, resv p.r = rv := ⟨_, rfl⟩
  obtain ⟨hp, hhp⟩ : ∃ hp, heldP p = hp := ⟨_, rfl⟩
  rw [hrv] at RS HH hrb
  rw [hhp] at HH hb ⊢
  clear hs ht hk hw hok ho hrv hhp
  obtain ⟨node, th, su, old, ⟨g, n, r, S⟩, ⟨a, b, f, T, K⟩⟩ := p
  dsimp only at *
  have hHH := HH.out
  have AD := run_add old rv hob.1 hrb.1
  have M1 : (old + rv) % 18446744073709551616 = hp := by rw [← hHH]; exact Int.emod_eq_of_lt (by omega) (by omega)
  have M2 : (old + rv) / 18446744073709551616 = 0 := by rw [← hHH]; exact Int.ediv_eq_zero_of_lt (by omega) (by omega)
  rw [M1, M2] at AD
  clear hHH M1 M2
  go_enter Try.func41, Try.ntmps41
  go_wp2_with fail
  have k0 := Blk.new w 31 #[.int .i64 node, .int .u64 th, .bool su, .int .u64 old, .int .u64 g, .int .u64 n, .int .u64 r, .slice As S.length cs, .int .u64 a, .int .u64 b, .int .u64 f, .slice At T.length ct, .slice Ak K.length ck]
  have hB := bal (Below.refl w.heap.size w) (.cells #[.int .i64 node, .int .u64 th, .bool su, .int .u64 old, .int .u64 g, .int .u64 n, .int .u64 r, .slice As S.length cs, .int .u64 a, .int .u64 b, .int .u64 f, .slice At T.length ct, .slice Ak K.length ck] 31)
  refine (RS.out _ _ _ (HT.out.below hB) (HK.out.below hB)).mono ?_
  rintro e w1 ⟨rfl, hb1⟩
  have kk : BK w w.heap.size 31 #[.int .i64 node, .int .u64 th, .bool su, .int .u64 old, .int .u64 g, .int .u64 n, .int .u64 r, .slice As S.length cs, .int .u64 a, .int .u64 b, .int .u64 f, .slice At T.length ct, .slice Ak K.length ck] w1 := ⟨k0.below hb1, bnext hB hb1⟩
  clear k0 hB hb1 RS
  obtain ⟨x0, x1, x2, x3, x4, x5, x6, x7, x8, x9, x10, x11, x12⟩ := kk.b.c13
  have hl0 := kk.b.lt
  have K1 := Lib.hid kk
  clear kk
  go_wp2_with fail
  go_ret2
  exact ⟨rfl, K1.out.hB⟩

end Go.Proofs.Ytfgkkflbpfocjaa

namespace Go.Proofs.Ytfgkkflbpfocjaa.Bu
open Go.RowKit
set_option linter.unusedVariables false
set_option linter.unusedSimpArgs false

def RetI (a : Int) (w : World) (e : Ending) (w' : World) : Prop := e = .returned (.int .i64 a) ∧ Below w.heap.size w w'
def RetB (a : Bool) (w : World) (e : Ending) (w' : World) : Prop := e = .returned (.bool a) ∧ Below w.heap.size w w'
def Lm.cells (x : Lm) : List Value := [.int .i64 x.n, .int .i64 x.l, .int .i64 x.g]
theorem lm3 (x : Lm) : x.cells.length = 3 := rfl
def Bn.cells (x : Bn) : List Value := [.int .i64 x.node, .int .u64 x.seq, .int .i64 x.off, .int .i64 x.dest, .int .i64 x.prio, .int .i64 x.born, .int .i64 x.life, .int .i64 x.total, .string x.data]
def Bn.val (x : Bn) : Value := .agg x.cells.toArray
theorem Bn.val_eq (x : Bn) : x.val = .agg #[.int .i64 x.node, .int .u64 x.seq, .int .i64 x.off, .int .i64 x.dest, .int .i64 x.prio, .int .i64 x.born, .int .i64 x.life, .int .i64 x.total, .string x.data] := rfl

set_option maxRecDepth 100000 in
set_option maxHeartbeats 2000000 in
theorem within_any (L : List Lm) (v : Value) (w : World) (hS : SlAt w 3 v L.length (fl Lm.cells L)) :
    Calls Try.prog 114 #[v] w (RetB (!L.any Lm.bad) w) := by
  obtain ⟨A, c, rfl, _, hc2, hR⟩ := hS
  unfold maxLen at hc2
  have HR := Lib.hid hR
  clear hR
  go_enter Try.func114, Try.ntmps114
  go_wp2_with fail
  go_loopw [7] (fun a wr => ∃ k : Nat, k ≤ L.length ∧ a = .int .i64 k ∧ LmMid L k ∧ Below w.heap.size w wr) (fun a _ => L.length - (intOf a).toNat)
  case atStart => exact ⟨0, by omega, rfl, rfl, Below.refl _ _⟩
  case round =>
    obtain ⟨k, hk, rfl, hM, hB⟩ := hrel
    have HM := Lib.hid hM
    clear hM
    by_cases hlt : k < L.length
    · obtain ⟨x, hx⟩ : ∃ x, L[k]? = some x := ⟨_, List.getElem?_eq_getElem hlt⟩
      obtain ⟨b, o, rfl, hb, d0', d1', d2'⟩ := reads_fl3 lm3 HR.out rfl hx rfl
      have d0 := (hB.cell (p := ⟨b, o + k * 3, none⟩) hb).trans d0'
      have d1 := (hB.cell (p := ⟨b, o + k * 3 + 1, none⟩) hb).trans d1'
      have d2 := (hB.cell (p := ⟨b, o + k * 3 + 2, none⟩) hb).trans d2'
      have hi : (k : Int) < L.length := by omega
      have HX := Lib.hid hx
      clear hx d0' d1' d2'
      by_cases c1 : x.n < x.l
      · have F : Hid (L.any Lm.bad = true) := Lib.hid (HM.out.hit HX.out (by simp [Lm.bad, c1]))
        go_wp2_with fail
        go_ret
        exact ⟨by rw [F.out]; rfl, (by repeat (first | with_reducible exact Below.refl _ _ | with_reducible refine Below.drew ?_ | with_reducible refine below_drewN ?_ _ | with_reducible refine bal ?_ _ | with_reducible refine bset ?_ (by first | (simp; done) | (simp; omega)) _ | with_reducible refine bnext ?_ (by assumption) | with_reducible assumption))⟩
      · by_cases c2 : x.n > x.g
        · have F : Hid (L.any Lm.bad = true) := Lib.hid (HM.out.hit HX.out (by simp [Lm.bad]; omega))
          go_wp2_with fail
          go_ret
          exact ⟨by rw [F.out]; rfl, (by repeat (first | with_reducible exact Below.refl _ _ | with_reducible refine Below.drew ?_ | with_reducible refine below_drewN ?_ _ | with_reducible refine bal ?_ _ | with_reducible refine bset ?_ (by first | (simp; done) | (simp; omega)) _ | with_reducible refine bnext ?_ (by assumption) | with_reducible assumption))⟩
        · have N1 := Lib.hid (HM.out.next HX.out (by simp [Lm.bad]; omega))
          go_wp2_with fail
          go_roundw
          case rel => exact ⟨k + 1, by omega, by go_num, N1.out, (by repeat (first | with_reducible exact Below.refl _ _ | with_reducible refine Below.drew ?_ | with_reducible refine below_drewN ?_ _ | with_reducible refine bal ?_ _ | with_reducible refine bset ?_ (by first | (simp; done) | (simp; omega)) _ | with_reducible refine bnext ?_ (by assumption) | with_reducible assumption))⟩
          case measure => simp [intOf]; omega
    · obtain rfl : k = L.length := by omega
      have F : Hid (L.any Lm.bad = false) := Lib.hid (HM.out.done (Nat.le_refl _))
      go_wp2_with fail
      go_ret
      exact ⟨by rw [F.out]; rfl, (by repeat (first | with_reducible exact Below.refl _ _ | with_reducible refine Below.drew ?_ | with_reducible refine below_drewN ?_ _ | with_reducible refine bal ?_ _ | with_reducible refine bset ?_ (by first | (simp; done) | (simp; omega)) _ | with_reducible refine bnext ?_ (by assumption) | with_reducible assumption))⟩
theorem lm_lit {w : World} {g : Nat} {t : TypeId} {L : List Lm} (h : Blk w g t (fl Lm.cells L).toArray) (n : Nat) (hn : n = L.length) (hm : n ≤ 1000) : SlAt w 3 (.slice (some ⟨g, 0, none⟩) n n) L.length (fl Lm.cells L) := by
  subst hn
  refine ⟨_, _, rfl, Nat.le_refl _, by unfold maxLen; omega, by rw [fl_len lm3], fun _ => ⟨g, 0, rfl, h.lt, fun j u hj => ?_⟩⟩
  rw [Nat.zero_add, h.cell, List.getElem?_toArray, hj]

set_option maxRecDepth 100000 in
set_option maxHeartbeats 2000000 in
theorem CheckID_any (node seq io : Int) (w : World) :
    Calls Try.prog 91 #[.agg #[.int .i64 node, .int .u64 seq, .int .i64 io]] w (RetI (idE node seq io) w) := by
  by_cases h : (1 ≤ node ∧ node ≤ 16) ∧ (0 ≤ io ∧ io ≤ 19999)
  · have D : Hid ((!([⟨node, 1, 16⟩, ⟨io, 0, 19999⟩] : List Lm).any Lm.bad) = true) := Lib.hid (by simp [Lm.bad]; omega)
    by_cases hs : seq ≤ 1099511627776
    · have R : Hid (idE node seq io = 0) := Lib.hid (if_pos ⟨h.1.1, h.1.2, h.2.1, h.2.2, hs⟩)
      clear h
      go_enter Try.func91, Try.ntmps91
      go_wp2_with fail
      refine (within_any [⟨node, 1, 16⟩, ⟨io, 0, 19999⟩] _ _ (lm_lit (t := 154) (Blk.new1 _ _ _ _) 2 rfl (by decide))).mono ?_
      rintro e w1 ⟨rfl, hb1⟩
      rw [D.out]
      have k0 := ((Blk.new w 47 #[.int .i64 node, .int .u64 seq, .int .i64 io]).alloc (.cells #[.int .i64 node, .int .i64 1, .int .i64 16, .int .i64 io, .int .i64 0, .int .i64 19999] 154)).below hb1
      obtain ⟨x0, x1, x2⟩ := k0.c3
      have hB := bnext (bal (bal (Below.refl w.heap.size w) (.cells #[.int .i64 node, .int .u64 seq, .int .i64 io] 47)) (.cells #[.int .i64 node, .int .i64 1, .int .i64 16, .int .i64 io, .int .i64 0, .int .i64 19999] 154)) hb1
      clear hb1 k0
      go_wp2_with fail
      go_ret
      exact ⟨ret_int R.out.symm, hB⟩
    · have R : Hid (idE node seq io = 2) := Lib.hid (if_neg (fun h => hs h.2.2.2.2))
      clear h
      go_enter Try.func91, Try.ntmps91
      go_wp2_with fail
      refine (within_any [⟨node, 1, 16⟩, ⟨io, 0, 19999⟩] _ _ (lm_lit (t := 154) (Blk.new1 _ _ _ _) 2 rfl (by decide))).mono ?_
      rintro e w1 ⟨rfl, hb1⟩
      rw [D.out]
      have k0 := ((Blk.new w 47 #[.int .i64 node, .int .u64 seq, .int .i64 io]).alloc (.cells #[.int .i64 node, .int .i64 1, .int .i64 16, .int .i64 io, .int .i64 0, .int .i64 19999] 154)).below hb1
      obtain ⟨x0, x1, x2⟩ := k0.c3
      have hB := bnext (bal (bal (Below.refl w.heap.size w) (.cells #[.int .i64 node, .int .u64 seq, .int .i64 io] 47)) (.cells #[.int .i64 node, .int .i64 1, .int .i64 16, .int .i64 io, .int .i64 0, .int .i64 19999] 154)) hb1
      clear hb1 k0
      go_wp2_with fail
      go_ret
      exact ⟨ret_int R.out.symm, hB⟩
  · have D : Hid ((!([⟨node, 1, 16⟩, ⟨io, 0, 19999⟩] : List Lm).any Lm.bad) = false) := Lib.hid (by simp [Lm.bad]; omega)
    have R : Hid (idE node seq io = 2) := Lib.hid (if_neg (fun e => h ⟨⟨e.1, e.2.1⟩, e.2.2.1, e.2.2.2.1⟩))
    clear h
    go_enter Try.func91, Try.ntmps91
    go_wp2_with fail
    refine (within_any [⟨node, 1, 16⟩, ⟨io, 0, 19999⟩] _ _ (lm_lit (t := 154) (Blk.new1 _ _ _ _) 2 rfl (by decide))).mono ?_
    rintro e w1 ⟨rfl, hb1⟩
    rw [D.out]
    have hB := bnext (bal (bal (Below.refl w.heap.size w) (.cells #[.int .i64 node, .int .u64 seq, .int .i64 io] 47)) (.cells #[.int .i64 node, .int .i64 1, .int .i64 16, .int .i64 io, .int .i64 0, .int .i64 19999] 154)) hb1
    clear hb1
    go_wp2_with fail
    go_ret
    exact ⟨ret_int R.out.symm, hB⟩
end Go.Proofs.Ytfgkkflbpfocjaa.Bu

