/- Contracts: a receiver's ledger opened, what is reserved (the program). -/
import Derived.Test.YtfgkkflbpfocjaaZc9
namespace Go.Proofs.Ytfgkkflbpfocjaa
open Go.RowKit
set_option linter.unusedVariables false
set_option linter.unusedSimpArgs false

def opnR (z : Rec) : Rec := if okR z then z else zRec
/-- an opened ledger -/
def RetOpn (y : Rec) (er : Int) (w : World) (e : Ending) (w' : World) : Prop := ∃ A c C d, e = .returned (.tuple #[.agg #[.int .u64 y.g, .int .u64 y.r, .int .u64 y.fl, .slice A y.tk.length c, .slice C y.kp.length d], .int .i64 er]) ∧ RgsB (w.heap.size + 2) w' (.slice A y.tk.length c) y.tk ∧ KpsB (w.heap.size + 2) w' (.slice C y.kp.length d) y.kp ∧ Below w.heap.size w w'

set_option maxRecDepth 100000 in
set_option maxHeartbeats 8000000 in
theorem openedR_ok (z : Rec) (hw : WfR z) (hk : okR z) (vt vk : Value) (w : World) (ht : RgsAt w vt z.tk) (hkp : KpsAt w vk z.kp) :
    Calls Try.prog 108 #[.agg #[.int .u64 z.g, .int .u64 z.r, .int .u64 z.fl, vt, vk]] w (RetOpn z 0 w) := by
  have HW := Lib.hid hw
  have hO := okR_of hk
  have htl := hO.nt
  have hkl := hO.nk
  have HC : Hid (∀ vt vk w, RgsAt w vt z.tk → KpsAt w vk z.kp → Calls Try.prog 61 #[.agg #[.int .u64 z.g, .int .u64 z.r, .int .u64 z.fl, vt, vk]] w (Ret2 .i64 .i64 0 ((chkR z).2 : Int) w)) := Lib.hid (fun vt vk w h1 h2 => by
    have := vCheck_any z hw vt vk w h1 h2
    rw [show (chkR z).1 = 0 from hk] at this
    exact this)
  obtain ⟨A, c, rfl⟩ := ht.form
  obtain ⟨C, d, rfl⟩ := hkp.form
  have HT := Lib.hid ht
  have HK := Lib.hid hkp
  obtain ⟨a, b, f, T, K⟩ := z
  dsimp only at *
  clear ht hkp hw hk hO
  obtain ⟨e2, he2⟩ : ∃ e2 : Int, (((chkR ⟨a, b, f, T, K⟩).2 : Nat) : Int) = e2 := ⟨_, rfl⟩
  rw [he2] at HC
  clear he2
  go_enter Try.func108, Try.ntmps108
  go_wp2_with fail
  have k0 := (Blk.new w 29 #[.int .u64 a, .int .u64 b, .int .u64 f, .slice A T.length c, .slice C K.length d]).alloc (.cells #[.int .u64 0, .int .u64 0, .int .u64 0, .slice none 0 0, .slice none 0 0] 29)
  have k1 := Blk.new1 w (.cells #[.int .u64 a, .int .u64 b, .int .u64 f, .slice A T.length c, .slice C K.length d] 29) 29 #[.int .u64 0, .int .u64 0, .int .u64 0, .slice none 0 0, .slice none 0 0]
  have hB := bal (bal (Below.refl w.heap.size w) (.cells #[.int .u64 a, .int .u64 b, .int .u64 f, .slice A T.length c, .slice C K.length d] 29)) (.cells #[.int .u64 0, .int .u64 0, .int .u64 0, .slice none 0 0, .slice none 0 0] 29)
  refine (HC.out _ _ _ (HT.out.below hB) (HK.out.below hB)).mono ?_
  rintro e w1 ⟨rfl, hb1⟩
  have kk : BK2 w w.heap.size 29 #[.int .u64 a, .int .u64 b, .int .u64 f, .slice A T.length c, .slice C K.length d] (w.heap.size + 1) 29 #[.int .u64 0, .int .u64 0, .int .u64 0, .slice none 0 0, .slice none 0 0] w1 := ⟨k0.below hb1, k1.below hb1, bnext hB hb1⟩
  clear k0 k1 hB hb1 HC
  obtain ⟨g0, hg0⟩ : ∃ g0, w.heap.size = g0 := ⟨_, rfl⟩
  have HG0 := Lib.hid hg0
  rw [hg0] at kk ⊢
  clear hg0
  obtain ⟨x0, x1, x2, x3, x4⟩ := kk.b.c5
  obtain ⟨f0, f1, f2, f3, f4⟩ := kk.b.f5
  have hl0 := kk.b.lt
  have hl1 := kk.c.lt
  have KK := Lib.hid kk
  clear kk
  have CT : Hid (∀ wv, BK2 w g0 29 #[.int .u64 a, .int .u64 b, .int .u64 f, .slice A T.length c, .slice C K.length d] (g0 + 1) 29 #[.int .u64 0, .int .u64 0, .int .u64 0, .slice none 0 0, .slice none 0 0] wv → Calls Try.prog 93 #[.slice A T.length c] wv (RetRgs T wv)) := Lib.hid (fun wv h => CloneR_any T _ wv (HT.out.below h.hB) (by omega))
  have CK : Hid (∀ wv, BK2 w g0 29 #[.int .u64 a, .int .u64 b, .int .u64 f, .slice A T.length c, .slice C K.length d] (g0 + 1) 29 #[.int .u64 0, .int .u64 0, .int .u64 0, .slice none 0 0, .slice none 0 0] wv → Calls Try.prog 94 #[.slice C K.length d] wv (RetKps K wv)) := Lib.hid (fun wv h => CloneK_any K _ wv (HK.out.below h.hB) (by omega))
  go_upto_region 4 with fail
  go_cut [] (fun wx => ∃ A' c' C' d', Blk wx g0 29 #[.int .u64 a, .int .u64 b, .int .u64 f, .slice A' T.length c', .slice C' K.length d'] ∧ Blk wx (g0 + 1) 29 #[.int .u64 0, .int .u64 0, .int .u64 0, .slice none 0 0, .slice none 0 0] ∧ RgsB (g0 + 2) wx (.slice A' T.length c') T ∧ KpsB (g0 + 2) wx (.slice C' K.length d') K ∧ Below w.heap.size w wx)
  case first =>
    go_region_with (first
      | (go_at_call 93; refine (CT.out _ (by (repeat (first | with_reducible exact KK.out | with_reducible refine BK2.drew ?_)))).mono ?_; rintro e wn ⟨At, ct, rfl, hr, hbn⟩; have K' : BK2 w g0 29 #[.int .u64 a, .int .u64 b, .int .u64 f, .slice A T.length c, .slice C K.length d] (g0 + 1) 29 #[.int .u64 0, .int .u64 0, .int .u64 0, .slice none 0 0, .slice none 0 0] wn := (by refine BK2.below ?_ hbn; (repeat (first | with_reducible exact KK.out | with_reducible refine BK2.drew ?_))); have RT := Lib.hid (RowB.low hr (B' := g0 + 2) (show g0 + 2 ≤ _ from KK.out.c.lt)); (try (have RK' := Lib.hid (RowB.below (by (repeat (first | with_reducible exact RK.out | with_reducible refine RowB.drew ?_))) hbn); clear RK; have RK := RK')); clear KK x0 x1 x2 x3 x4 hl0 hl1 f0 f1 f2 f3 f4; have KK := Lib.hid K'; obtain ⟨x0, x1, x2, x3, x4⟩ := K'.b.c5; obtain ⟨f0, f1, f2, f3, f4⟩ := K'.b.f5; have hl0 := K'.b.lt; have hl1 := K'.c.lt; clear K' hbn hr)
      | (go_at_call 94; refine (CK.out _ (by (repeat (first | with_reducible exact KK.out | with_reducible refine BK2.drew ?_)))).mono ?_; rintro e wn ⟨Ak, ck, rfl, hr, hbn⟩; have K' : BK2 w g0 29 #[.int .u64 a, .int .u64 b, .int .u64 f, .slice A T.length c, .slice C K.length d] (g0 + 1) 29 #[.int .u64 0, .int .u64 0, .int .u64 0, .slice none 0 0, .slice none 0 0] wn := (by refine BK2.below ?_ hbn; (repeat (first | with_reducible exact KK.out | with_reducible refine BK2.drew ?_))); have RK := Lib.hid (RowB.low hr (B' := g0 + 2) (show g0 + 2 ≤ _ from KK.out.c.lt)); (try (have RT' := Lib.hid (RowB.below (by (repeat (first | with_reducible exact RT.out | with_reducible refine RowB.drew ?_))) hbn); clear RT; have RT := RT')); clear KK x0 x1 x2 x3 x4 hl0 hl1 f0 f1 f2 f3 f4; have KK := Lib.hid K'; obtain ⟨x0, x1, x2, x3, x4⟩ := K'.b.c5; obtain ⟨f0, f1, f2, f3, f4⟩ := K'.b.f5; have hl0 := K'.b.lt; have hl1 := K'.c.lt; clear K' hbn hr))
    all_goals
      go_wp2_with fail
      go_meet
      exact ⟨At, ct, Ak, ck, (KK.out.b.set 3 _).set 4 _, (KK.out.c.far (p := ⟨g0, 3, none⟩) (by show g0 + 1 ≠ g0; omega) _).far (p := ⟨g0, 4, none⟩) (by show g0 + 1 ≠ g0; omega) _, RowB.set (RowB.set RT.out (p := ⟨g0, 3, none⟩) (by show g0 < _; omega) _) (p := ⟨g0, 4, none⟩) (by show g0 < _; omega) _, RowB.set (RowB.set RK.out (p := ⟨g0, 3, none⟩) (by show g0 < _; omega) _) (p := ⟨g0, 4, none⟩) (by show g0 < _; omega) _, bset (bset KK.out.hB (p := ⟨g0, 3, none⟩) (by show _ ≤ g0; rw [HG0.out]; omega) _) (p := ⟨g0, 4, none⟩) (by show _ ≤ g0; rw [HG0.out]; omega) _⟩
  case rest =>
    obtain ⟨At, ct, Ak, ck, kb, kc, rT, rK, hB⟩ := hcut
    have RT := Lib.hid rT
    have RK := Lib.hid rK
    have HB := Lib.hid hB
    clear KK x0 x1 x2 x3 x4 f0 f1 f2 f3 f4 hl0 hl1 rT rK hB CT CK
    obtain ⟨x0, x1, x2, x3, x4⟩ := kb.c5
    obtain ⟨f0, f1, f2, f3, f4⟩ := kb.f5
    obtain ⟨y0, y1, y2, y3, y4⟩ := kc.c5
    obtain ⟨h0, h1, h2, h3, h4⟩ := kc.f5
    have hl0 := kb.lt
    have hl1 := kc.lt
    clear kb kc
    go_wp2_with fail
    refine bodyPost_ret (v := .tuple #[.agg #[.int .u64 a, .int .u64 b, .int .u64 f, .slice At T.length ct, .slice Ak K.length ck], .int .i64 0]) (by simp [results, Try.results108, go_sem, hl1, y0, y1, y2, y3, y4]) rfl ?_
    refine ⟨At, ct, Ak, ck, rfl, ?_, ?_, ?_⟩
    · rw [HG0.out]; repeat (first | with_reducible exact RT.out | with_reducible refine RowB.set ?_ (by show g0 + 1 < _; omega) _)
    · rw [HG0.out]; repeat (first | with_reducible exact RK.out | with_reducible refine RowB.set ?_ (by show g0 + 1 < _; omega) _)
    · repeat (first | with_reducible exact HB.out | with_reducible refine bset ?_ (by show _ ≤ g0 + 1; rw [HG0.out]; omega) _)

set_option maxRecDepth 100000 in
set_option maxHeartbeats 4000000 in
theorem openedR_no (z : Rec) (hw : WfR z) (hk : ¬ okR z) (vt vk : Value) (w : World) (ht : RgsAt w vt z.tk) (hkp : KpsAt w vk z.kp) :
    Calls Try.prog 108 #[.agg #[.int .u64 z.g, .int .u64 z.r, .int .u64 z.fl, vt, vk]] w (RetOpn zRec (chkR z).1 w) := by
  obtain ⟨e1, he1⟩ : ∃ e1 : Int, (chkR z).1 = e1 := ⟨_, rfl⟩
  obtain ⟨e2, he2⟩ : ∃ e2 : Int, (((chkR z).2 : Nat) : Int) = e2 := ⟨_, rfl⟩
  have hne : (e1 != 0) = true := by rw [bne_iff_ne, ← he1]; exact hk
  have HC : Hid (∀ vt vk w, RgsAt w vt z.tk → KpsAt w vk z.kp → Calls Try.prog 61 #[.agg #[.int .u64 z.g, .int .u64 z.r, .int .u64 z.fl, vt, vk]] w (Ret2 .i64 .i64 e1 e2 w)) := Lib.hid (fun vt vk w h1 h2 => by
    have := vCheck_any z hw vt vk w h1 h2
    rw [he1, he2] at this
    exact this)
  rw [he1]
  obtain ⟨A, c, rfl⟩ := ht.form
  obtain ⟨C, d, rfl⟩ := hkp.form
  have HT := Lib.hid ht
  have HK := Lib.hid hkp
  obtain ⟨a, b, f, T, K⟩ := z
  dsimp only at *
  clear ht hkp hw hk he1 he2
  go_enter Try.func108, Try.ntmps108
  go_wp2_with fail
  have k1 := Blk.new1 w (.cells #[.int .u64 a, .int .u64 b, .int .u64 f, .slice A T.length c, .slice C K.length d] 29) 29 #[.int .u64 0, .int .u64 0, .int .u64 0, .slice none 0 0, .slice none 0 0]
  have hB := bal (bal (Below.refl w.heap.size w) (.cells #[.int .u64 a, .int .u64 b, .int .u64 f, .slice A T.length c, .slice C K.length d] 29)) (.cells #[.int .u64 0, .int .u64 0, .int .u64 0, .slice none 0 0, .slice none 0 0] 29)
  refine (HC.out _ _ _ (HT.out.below hB) (HK.out.below hB)).mono ?_
  rintro e w1 ⟨rfl, hb1⟩
  have kc := k1.below hb1
  have HB := Lib.hid (bnext hB hb1)
  clear hb1 k1 HC hB
  obtain ⟨y0, y1, y2, y3, y4⟩ := kc.c5
  obtain ⟨h0, h1, h2, h3, h4⟩ := kc.f5
  have hl1 := kc.lt
  clear kc
  go_wp2_with fail
  refine bodyPost_ret (v := .tuple #[.agg #[.int .u64 0, .int .u64 0, .int .u64 0, .slice none 0 0, .slice none 0 0], .int .i64 e1]) (by simp [results, Try.results108, go_sem, hl1, y0, y1, y2, y3, y4]) rfl ?_
  refine ⟨none, 0, none, 0, rfl, RowB.nil _ _ _, RowB.nil _ _ _, ?_⟩
  repeat (first | with_reducible exact HB.out | with_reducible refine bset ?_ (by show w.heap.size ≤ w.heap.size + 1; omega) _)

theorem openedR_any (z : Rec) (hw : WfR z) (vt vk : Value) (w : World) (ht : RgsAt w vt z.tk) (hkp : KpsAt w vk z.kp) :
    Calls Try.prog 108 #[.agg #[.int .u64 z.g, .int .u64 z.r, .int .u64 z.fl, vt, vk]] w (RetOpn (opnR z) (chkR z).1 w) := by
  by_cases h : okR z
  · unfold opnR
    rw [if_pos h, show (chkR z).1 = 0 from h]
    exact openedR_ok z hw h vt vk w ht hkp
  · unfold opnR
    rw [if_neg h]
    exact openedR_no z hw h vt vk w ht hkp

theorem okZ : OkR zRec := ⟨by decide, by decide, by decide, by decide, by decide, fun i h => absurd h (by show ¬ i < 0; omega)⟩
theorem opnR_ok (z : Rec) (hw : WfR z) : OkR (opnR z) ∧ WfR (opnR z) := by
  unfold opnR
  by_cases h : okR z
  · rw [if_pos h]; exact ⟨okR_of h, hw⟩
  · rw [if_neg h]
    exact ⟨okZ, ⟨by decide, by decide, by decide, fun x hx => (by cases hx), fun x hx => (by cases hx)⟩⟩

set_option maxRecDepth 100000 in
set_option maxHeartbeats 4000000 in
theorem reserved_any (z : Rec) (hz : OkR z) (hw : WfR z) (vt vk : Value) (w : World) (ht : RgsAt w vt z.tk) (hk : ∃ A l c, vk = .slice A l c) :
    Calls Try.prog 110 #[.agg #[.int .u64 z.g, .int .u64 z.r, .int .u64 z.fl, vt, vk]] w (RetI .u64 (resv z) w) := by
  have h1 := hz.g
  have h2 := hz.r
  have h3 := hz.fl
  have h4 := hw.r.1
  have h5 := hw.fl.1
  have h6 := szs_le hz z.tk.length (Nat.le_refl _)
  have h7 := endK_le hz (k := z.tk.length) (Nat.le_refl _)
  have SZ := Lib.hid (fun v w h => setSize_ok z hz h5 h4 v w h)
  have HR : Hid (resv z = z.g - z.r - z.fl - szs z.tk z.tk.length) := Lib.hid rfl
  obtain ⟨n, hn⟩ : ∃ n, szs z.tk z.tk.length = n := ⟨_, rfl⟩
  rw [hn] at SZ HR h6
  obtain ⟨m, hm⟩ : ∃ m, endK z z.tk.length = m := ⟨_, rfl⟩
  rw [hm] at h6 h7
  obtain ⟨A, c, rfl⟩ := ht.form
  obtain ⟨C, l, d, rfl⟩ := hk
  have HT := Lib.hid ht
  obtain ⟨a, b, f, T, K⟩ := z
  dsimp only at *
  have RM := Lib.hid (fun w => room_any a b f (.slice A T.length c) (.slice C l d) w h4 h2 (by omega) ⟨_, _, _, rfl⟩ ⟨_, _, _, rfl⟩)
  have W1 : IntKind.u64.wrap (a - b - f) = a - b - f := IntWalk.u64_in _ (by omega)
  have W2 : IntKind.u64.wrap (a - b - f - n) = a - b - f - n := IntWalk.u64_in _ (by omega)
  clear hz hw ht hn hm
  go_enter Try.func110, Try.ntmps110
  go_wp2_with fail
  have k0 := Blk.new w 29 #[.int .u64 a, .int .u64 b, .int .u64 f, .slice A T.length c, .slice C l d]
  have hB := bal (Below.refl w.heap.size w) (.cells #[.int .u64 a, .int .u64 b, .int .u64 f, .slice A T.length c, .slice C l d] 29)
  refine (SZ.out _ _ (HT.out.below hB)).mono ?_
  rintro e w1 ⟨rfl, hb1⟩
  have kk : BK w w.heap.size 29 #[.int .u64 a, .int .u64 b, .int .u64 f, .slice A T.length c, .slice C l d] w1 := ⟨k0.below hb1, bnext hB hb1⟩
  clear k0 hB hb1 SZ
  obtain ⟨g0, hg0⟩ : ∃ g0, w.heap.size = g0 := ⟨_, rfl⟩
  rw [hg0] at kk ⊢
  clear hg0
  obtain ⟨x0, x1, x2, x3, x4⟩ := kk.b.c5
  have hl0 := kk.b.lt
  have KK := Lib.hid kk
  clear kk
  go_upto_region 2 with fail
  go_region_with (go_at_call 103; refine (RM.out _).mono ?_; rintro e wn ⟨rfl, hbn⟩; have K' : BK w g0 29 #[.int .u64 a, .int .u64 b, .int .u64 f, .slice A T.length c, .slice C l d] wn := (by refine BK.below ?_ hbn; (repeat (first | with_reducible exact KK.out | with_reducible refine BK.drew ?_))); clear KK x0 x1 x2 x3 x4 hl0; have KK := Lib.hid K'; obtain ⟨x0, x1, x2, x3, x4⟩ := K'.b.c5; have hl0 := K'.b.lt; clear K' hbn)
  all_goals
    go_wp2_with fail
    go_ret
    exact ⟨ret_int HR.out.symm, KK.out.hB⟩

set_option maxRecDepth 100000 in
set_option maxHeartbeats 4000000 in
theorem Reserved_any (z : Rec) (hw : WfR z) (vt vk : Value) (w : World) (ht : RgsAt w vt z.tk) (hkp : KpsAt w vk z.kp) :
    Calls Try.prog 78 #[.agg #[.int .u64 z.g, .int .u64 z.r, .int .u64 z.fl, vt, vk]] w (Ret2 .u64 .i64 (resv (opnR z)) (chkR z).1 w) := by
  obtain ⟨ho, hwo⟩ := opnR_ok z hw
  have HO := Lib.hid (fun vt vk w h1 h2 => openedR_any z hw vt vk w h1 h2)
  have RS := Lib.hid (fun vt vk w h1 h2 => reserved_any (opnR z) ho hwo vt vk w h1 h2)
  obtain ⟨y, hy⟩ : ∃ y, opnR z = y := ⟨_, rfl⟩
  obtain ⟨e1, he1⟩ : ∃ e1 : Int, (chkR z).1 = e1 := ⟨_, rfl⟩
  obtain ⟨rv, hrv⟩ : ∃ rv, resv (opnR z) = rv := ⟨_, rfl⟩
  rw [hrv] at RS
  rw [hy] at HO RS
  rw [he1] at HO
  rw [hrv, he1]
  obtain ⟨A, c, rfl⟩ := ht.form
  obtain ⟨C, d, rfl⟩ := hkp.form
  have HT := Lib.hid ht
  have HK := Lib.hid hkp
  obtain ⟨a, b, f, T, K⟩ := z
  obtain ⟨a', b', f', T', K'⟩ := y
  dsimp only at *
  clear ht hkp hw he1 hy hrv ho hwo
  go_enter Try.func78, Try.ntmps78
  go_wp2_with fail
  have k0 := Blk.new w 29 #[.int .u64 a, .int .u64 b, .int .u64 f, .slice A T.length c, .slice C K.length d]
  have hB := bal (Below.refl w.heap.size w) (.cells #[.int .u64 a, .int .u64 b, .int .u64 f, .slice A T.length c, .slice C K.length d] 29)
  refine (HO.out _ _ _ (HT.out.below hB) (HK.out.below hB)).mono ?_
  rintro e w1 ⟨At, ct, Ak, ck, rfl, hrT, hrK, hb1⟩
  have kb := k0.below hb1
  have HB := Lib.hid (bnext hB hb1)
  have hz0 := hB.size
  rw [World.size_alloc] at hrT hrK
  have RT := Lib.hid hrT
  clear hb1 k0 HO hB hrT hrK HT HK
  obtain ⟨x0, x1, x2, x3, x4⟩ := kb.c5
  obtain ⟨f0, f1, f2, f3, f4⟩ := kb.f5
  have hl0 := kb.lt
  clear kb
  go_wp2_with fail
  refine (RS.out _ _ _ ?_ ⟨_, _, _, rfl⟩).mono ?_
  · refine RowB.at (B := w.heap.size + 1 + 2) ?_
    repeat (first | with_reducible exact RT.out | with_reducible refine RowB.set ?_ (by show w.heap.size < _; omega) _)
  rintro e w2 ⟨rfl, hb2⟩
  have hB2 : Below w.heap.size w w2 := bnext (by repeat (first | with_reducible exact HB.out | with_reducible refine bset ?_ (Nat.le_refl _) _)) hb2
  clear hb2
  go_wp2_with fail
  go_ret2
  exact ⟨rfl, hB2⟩
end Go.Proofs.Ytfgkkflbpfocjaa

