/- Contract: the reference's taking of a range into a receiver's valid ledger that keeps nothing. -/
import Derived.Test.YtfgkkflbpfocjaaZc29
namespace Go.Proofs.Ytfgkkflbpfocjaa
open Go.RowKit
set_option linter.unusedVariables false
set_option linter.unusedSimpArgs false

theorem take_pre {a b f : Int} {T : List Rg} {off size : Int} (hk : okR ⟨a, b, f, T, []⟩) (hs : 0 ≤ size) (h : stE ⟨a, b, f, T, []⟩ off size = (2, 0)) : 0 < size ∧ off + size ≤ a - b ∧ f ≤ off := by
  have hk0 : (chkR ⟨a, b, f, T, []⟩).1 = 0 := hk
  unfold stE at h
  rw [if_neg (fun c => c hk0)] at h
  by_cases c1 : size = 0
  · rw [if_pos c1] at h; cases h
  · rw [if_neg c1] at h
    dsimp only at h
    by_cases c2 : a - b < size ∨ a - b - size < off
    · rw [if_pos c2] at h; cases h
    · rw [if_neg c2] at h
      injection h with h1 _
      have m := cons_mono (r := ⟨a, b, f, T, []⟩) (off := off) (size := size) (j := 0) (k := T.length) (Nat.zero_le _)
      have e0 : cons ⟨a, b, f, T, []⟩ off size 0 = flv ⟨a, b, f, T, []⟩ off size := rfl
      unfold stOf at h1
      by_cases c3 : cons ⟨a, b, f, T, []⟩ off size T.length = size
      · rw [if_pos c3] at h1; cases h1
      · rw [if_neg c3] at h1
        by_cases c4 : cons ⟨a, b, f, T, []⟩ off size T.length = 0
        · refine ⟨by omega, by omega, ?_⟩
          rw [c4, e0] at m
          unfold flv at m
          dsimp only at m
          by_cases c5 : off < f
          · rw [if_pos c5] at m; omega
          · omega
        · rw [if_neg c4] at h1; cases h1
theorem take_ok {a b f hi : Int} {T l : List Rg} (hk : okR ⟨a, b, f, T, []⟩) (hw : WfR ⟨a, b, f, T, []⟩) (hhi : hi ≤ a - b) (h : Apart f hi l) (hl : l.length ≤ 1000) : okR ⟨a, b, f, l, []⟩ ∧ WfR ⟨a, b, f, l, []⟩ ∧ ∀ j, j < l.length → (rgAt l j).t ≤ hi := by
  have o := okR_of hk
  have q1 := o.g; have q2 := hw.fl; have q3 := hw.g; have q4 := hw.r
  dsimp only at q1 q2 q3 q4
  refine ⟨okR_mk ⟨o.g, o.r, o.fl, hl, Nat.zero_le _, fun i hi' => ?_⟩ rfl, ⟨hw.g, hw.r, hw.fl, fun x hx => ?_, fun x hx => by cases hx⟩, fun j hj => (h j hj).2.2.1⟩
  · obtain ⟨p1, p2, p3, p4⟩ := h i hi'
    exact ⟨p1, p2, by dsimp only; omega, p4⟩
  · obtain ⟨i, hi', e⟩ := mem_rgAt hx
    have hi' : i < l.length := hi'
    obtain ⟨p1, p2, p3, p4⟩ := h i hi'
    have e : rgAt l i = x := e
    rw [e] at p1 p2 p3
    omega
def TakePost (a b f hi : Int) (w : World) (e : Ending) (w' : World) : Prop := ∃ z er, RetRE z er w e w' ∧ (er = 0 → z.g = a ∧ z.r = b ∧ z.fl = f ∧ z.kp = [] ∧ okR z ∧ WfR z ∧ ∀ j, j < z.tk.length → (rgAt z.tk j).t ≤ hi)

set_option maxRecDepth 100000 in
set_option maxHeartbeats 8000000 in
theorem rvTake_any (a b f : Int) (T : List Rg) (hw : WfR ⟨a, b, f, T, []⟩) (hk : okR ⟨a, b, f, T, []⟩) (off size hi : Int) (ho : 0 ≤ off ∧ off ≤ 18446744073709551615) (hs : 0 ≤ size ∧ size ≤ 18446744073709551615) (hhi : hi ≤ a - b) (hTh : ∀ j, j < T.length → (rgAt T j).t ≤ hi) (hoff : off + size ≤ hi ∨ hi = a - b)
    (vt vk : Value) (w : World) (ht : RgsAt w vt T) (hkp : KpsAt w vk []) :
    Calls Try.prog 111 #[.agg #[.int .u64 a, .int .u64 b, .int .u64 f, vt, vk], .int .u64 off, .int .u64 size] w (TakePost a b f hi w) := by
  have hln := (okR_of hk).nt
  have HS := Lib.hid (fun vt vk w h1 h2 => rState_any _ hw off size ho hs vt vk w h1 h2)
  obtain ⟨st, hst⟩ : ∃ st, stE ⟨a, b, f, T, []⟩ off size = st := ⟨_, rfl⟩
  rw [hst] at HS
  have PRE : Hid (st = (2, 0) → 0 < size ∧ off + size ≤ a - b ∧ f ≤ off) := Lib.hid (fun h => take_pre hk hs.1 (hst.trans h))
  obtain ⟨n, es⟩ := st
  dsimp only at HS
  have AP : Hid (Apart f hi T) := Lib.hid (fun i h => by
    obtain ⟨p1, p2, p3, p4⟩ := (okR_of hk).t i h
    exact ⟨p1, p2, hTh i h, p4⟩)
  have HTO := Lib.hid (fun l => take_ok (l := l) hk hw hhi)
  have hab : a - b ≤ 18446744073709551615 := by have := hw.g; have := hw.r; dsimp only at *; omega
  have hf0 : 0 ≤ f := hw.fl.1
  have HW := Lib.hid hw
  obtain ⟨A, c, rfl⟩ := ht.form
  obtain ⟨C, d, rfl⟩ := hkp.form
  have HT := Lib.hid ht
  have HK := Lib.hid hkp
  clear hw hk ht hkp hst hTh
  dsimp only [List.length_nil] at hln HK ⊢
  go_enter Try.func111, Try.ntmps111
  go_wp2_with fail
  have k0 := (Blk.new w 29 #[.int .u64 a, .int .u64 b, .int .u64 f, .slice A T.length c, .slice C 0 d]).alloc (.cells #[.int .u64 0, .int .u64 0, .int .u64 0, .slice none 0 0, .slice none 0 0] 29)
  have k1 := Blk.new1 w (.cells #[.int .u64 a, .int .u64 b, .int .u64 f, .slice A T.length c, .slice C 0 d] 29) 29 #[.int .u64 0, .int .u64 0, .int .u64 0, .slice none 0 0, .slice none 0 0]
  have hB := bal (bal (Below.refl w.heap.size w) (.cells #[.int .u64 a, .int .u64 b, .int .u64 f, .slice A T.length c, .slice C 0 d] 29)) (.cells #[.int .u64 0, .int .u64 0, .int .u64 0, .slice none 0 0, .slice none 0 0] 29)
  refine (HS.out _ _ _ (HT.out.below hB) (HK.out.below hB)).mono ?_
  rintro e w1 ⟨rfl, hb⟩
  replace k0 := k0.below hb
  replace k1 := k1.below hb
  replace hB := bnext hB hb
  clear hb HS
  obtain ⟨x0, x1, x2, x3, x4⟩ := k0.c5
  obtain ⟨y0, y1, y2, y3, y4⟩ := k1.c5
  obtain ⟨f0, f1, f2, f3, f4⟩ := k1.f5
  have hl1 := k1.lt
  by_cases he : es = 0
  · subst he
    by_cases hn : n = 2
    · subst hn
      obtain ⟨hs0, hos, hfo⟩ := PRE.out rfl
      have hosr : off + size ≤ hi := by omega
      have WO : IntKind.u64.wrap (off + size) = off + size := IntWalk.u64_in _ (by omega)
      have hlt2 : off ≤ off + size := by omega
      go_wp2_with fail
      clear WO
      refine (add_any T AP.out hf0 (by omega) hln ⟨off, off + size⟩ hfo hlt2 hosr _ _ (HT.out.below hB)).mono ?_
      rintro e w2 ⟨l, v, er, rfl, hr, hb, himp⟩
      have HIMP := Lib.hid himp
      have hr1 := Lib.hid hr
      obtain ⟨Al, cl, rfl, _⟩ := id hr
      have hwl : w.heap.size + 2 ≤ w1.heap.size := hl1
      clear himp hr x0 x1 x2 x3 x4 y0 y1 y2 y3 y4 f0 f1 f2 f3 f4 hl1
      replace k0 := k0.below hb
      replace k1 := k1.below hb
      have hwl2 : w.heap.size + 2 ≤ w2.heap.size := Nat.le_trans hwl hb.size
      replace hB := bnext hB hb
      obtain ⟨x0, x1, x2, x3, x4⟩ := k0.c5
      obtain ⟨y0, y1, y2, y3, y4⟩ := k1.c5
      obtain ⟨f0, f1, f2, f3, f4⟩ := k1.f5
      have hl1 := k1.lt
      by_cases he2 : er = 0
      · subst he2
        obtain ⟨AL, hll⟩ := HIMP.out rfl
        have HZ := Lib.hid (HTO.out l AL hll)
        clear AL HIMP
        go_wp2_with fail
        refine (rown19_any a b f T [] _ _ w2 (HT.out.below hB) (HK.out.below hB) (by omega) (by simp)).mono ?_
        rintro e w3 ⟨vt, vk, rfl, hr, hq, hb3⟩
        obtain ⟨A', c', rfl, _⟩ := id hr
        obtain ⟨C', d', rfl, _⟩ := id hq
        have HQ := Lib.hid hq
        have hr3 := Lib.hid (hr1.out.below hb3)
        replace k0 := k0.below hb3
        replace k1 := k1.below hb3
        replace hB := bnext hB hb3
        clear hb3 hr hq hr1 x0 x1 x2 x3 x4 y0 y1 y2 y3 y4 f0 f1 f2 f3 f4 hl1
        obtain ⟨x0, x1, x2, x3, x4⟩ := k0.c5
        obtain ⟨y0, y1, y2, y3, y4⟩ := k1.c5
        obtain ⟨f0, f1, f2, f3, f4⟩ := k1.f5
        have hl1 := k1.lt
        have hne : ¬ w.heap.size + 1 = w3.heap.size := by omega
        have hne0 : ¬ w.heap.size = w3.heap.size := by omega
        have hl0 : w.heap.size < w3.heap.size := by omega
        dsimp only [List.length_nil]
        go_wp2_with fail
        refine bodyPost_ret (v := .tuple #[.agg #[.int .u64 a, .int .u64 b, .int .u64 f, .slice Al l.length cl, .slice C' 0 d'], .int .i64 0]) (by simp [results, Try.results111, go_sem, y0, y1, y2, y3, y4, hne, hl1]) rfl ?_
        refine ⟨⟨a, b, f, l, []⟩, 0, ⟨Al, cl, C', d', rfl, ?_, ?_, ?_⟩, fun _ => ⟨rfl, rfl, rfl, rfl, HZ.out⟩⟩
        · refine RowB.low (B := w1.heap.size) ?_ (by omega)
          repeat (first | with_reducible exact hr3.out | with_reducible refine RowB.set ?_ (by simp; omega) _ | with_reducible refine RowB.alloc ?_ _)
        · refine RowB.low (B := w2.heap.size + 2) ?_ (by omega)
          repeat (first | with_reducible exact HQ.out | with_reducible refine RowB.set ?_ (by simp; omega) _ | with_reducible refine RowB.alloc ?_ _)
        · exact (by repeat (first | with_reducible exact Below.refl _ _ | with_reducible refine Below.drew ?_ | with_reducible refine below_drewN ?_ _ | with_reducible refine bal ?_ _ | with_reducible refine bset ?_ (by first | (simp; done) | (simp; omega)) _ | with_reducible refine bnext ?_ (by assumption) | with_reducible assumption))
      · have NE := Lib.hid he2
        have e1 : (er == 0) = false := by simpa using he2
        have e2 : (er != 0) = true := by simpa using he2
        clear he2
        go_wp2_with fail
        refine bodyPost_ret (v := .tuple #[.agg #[.int .u64 0, .int .u64 0, .int .u64 0, .slice none 0 0, .slice none 0 0], .int .i64 er]) (by simp [results, Try.results111, go_sem, y0, y1, y2, y3, y4, hl1]) rfl ?_
        exact ⟨zRec, er, ⟨none, 0, none, 0, rfl, RowB.nil _ _ 2, RowB.nil _ _ 1, (by repeat (first | with_reducible exact Below.refl _ _ | with_reducible refine Below.drew ?_ | with_reducible refine below_drewN ?_ _ | with_reducible refine bal ?_ _ | with_reducible refine bset ?_ (by first | (simp; done) | (simp; omega)) _ | with_reducible refine bnext ?_ (by assumption) | with_reducible assumption))⟩, fun h => absurd h NE.out⟩
    · have NE : Hid (¬ (12 : Int) = 0) := Lib.hid (by decide)
      have e1 : (n == 2) = false := by simpa using hn
      have e2 : (n != 2) = true := by simpa using hn
      clear hn
      go_wp2_with fail
      refine bodyPost_ret (v := .tuple #[.agg #[.int .u64 0, .int .u64 0, .int .u64 0, .slice none 0 0, .slice none 0 0], .int .i64 12]) (by simp [results, Try.results111, go_sem, y0, y1, y2, y3, y4, hl1]) rfl ?_
      exact ⟨zRec, 12, ⟨none, 0, none, 0, rfl, RowB.nil _ _ 2, RowB.nil _ _ 1, (by repeat (first | with_reducible exact Below.refl _ _ | with_reducible refine Below.drew ?_ | with_reducible refine below_drewN ?_ _ | with_reducible refine bal ?_ _ | with_reducible refine bset ?_ (by first | (simp; done) | (simp; omega)) _ | with_reducible refine bnext ?_ (by assumption) | with_reducible assumption))⟩, fun h => absurd h NE.out⟩
  · have NE := Lib.hid he
    have e1 : (es == 0) = false := by simpa using he
    have e2 : (es != 0) = true := by simpa using he
    clear he
    go_wp2_with fail
    refine bodyPost_ret (v := .tuple #[.agg #[.int .u64 0, .int .u64 0, .int .u64 0, .slice none 0 0, .slice none 0 0], .int .i64 es]) (by simp [results, Try.results111, go_sem, y0, y1, y2, y3, y4, hl1]) rfl ?_
    exact ⟨zRec, es, ⟨none, 0, none, 0, rfl, RowB.nil _ _ 2, RowB.nil _ _ 1, (by repeat (first | with_reducible exact Below.refl _ _ | with_reducible refine Below.drew ?_ | with_reducible refine below_drewN ?_ _ | with_reducible refine bal ?_ _ | with_reducible refine bset ?_ (by first | (simp; done) | (simp; omega)) _ | with_reducible refine bnext ?_ (by assumption) | with_reducible assumption))⟩, fun h => absurd h NE.out⟩
end Go.Proofs.Ytfgkkflbpfocjaa

