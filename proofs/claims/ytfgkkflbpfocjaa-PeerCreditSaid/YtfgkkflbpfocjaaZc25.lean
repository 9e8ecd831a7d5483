/- Frames checked (the program): the rest. -/
import Derived.Test.YtfgkkflbpfocjaaZc24
namespace Go.Proofs.Ytfgkkflbpfocjaa
open Go.RowKit
set_option linter.unusedVariables false
set_option linter.unusedSimpArgs false

set_option maxRecDepth 100000 in
set_option maxHeartbeats 16000000 in
theorem fc_rest (kind frm tto mine yours a b inode iseq ioff node seq off dest prio born life total : Int) (data : ByteArray) (ba bb bn bi ok : Bool) (lo hi be ie : Int) (w : World) (U2 : ∀ w, Calls Try.prog 88 #[.int .i64 kind] w (fun e w' => e = .returned (.tuple #[.agg #[.bool ba, .bool bb, .bool bn, .bool bi], .bool ok]) ∧ Below w.heap.size w w')) (LL : ∀ w, Calls Try.prog 89 #[.agg #[.int .i64 kind, .int .i64 frm, .int .i64 tto, .int .u64 mine, .int .u64 yours, .int .u64 a, .int .u64 b, .int .i64 inode, .int .u64 iseq, .int .i64 ioff, .int .i64 node, .int .u64 seq, .int .i64 off, .int .i64 dest, .int .i64 prio, .int .i64 born, .int .i64 life, .int .i64 total, .string data]] w (Ret2 .u64 .u64 lo hi w)) (CB : ∀ w, Calls Try.prog 90 #[.agg #[.int .i64 node, .int .u64 seq, .int .i64 off, .int .i64 dest, .int .i64 prio, .int .i64 born, .int .i64 life, .int .i64 total, .string data]] w (RetI .i64 be w)) (CI : ∀ w, Calls Try.prog 91 #[.agg #[.int .i64 inode, .int .u64 iseq, .int .i64 ioff]] w (RetI .i64 ie w)) (hok : ok = true) (hin : 1 ≤ frm ∧ frm ≤ 16 ∧ 1 ≤ tto ∧ tto ≤ 16 ∧ tto ≠ frm ∧ 1 ≤ mine ∧ mine ≤ 1099511627776 ∧ yours ≤ 1099511627776) (ho : ¬ ((ba = true ∧ 1125899906842624 < a) ∨ (bb = true ∧ (b < lo ∨ hi < b))))
    (A1 B1 I1 I2 I3 n0 n1 n2 n3 n4 n5 n6 n7 : Int) (ns : ByteArray) (hA : A1 = if ba = true then a else 0) (hBv : B1 = if bb = true then b else 0) (hI : (I1, I2, I3) = if bi = true then (inode, iseq, ioff) else (0, 0, 0)) (hN : (n0, n1, n2, n3, n4, n5, n6, n7, ns) = if bn = true then (node, seq, off, dest, prio, born, life, total, data) else (0, 0, 0, 0, 0, 0, 0, 0, ⟨#[]⟩))
    (fe : Int) (hfe : fe = if bn = true ∧ be ≠ 0 then be else if bi = true ∧ ie ≠ 0 then ie else if frEqB kind frm tto mine yours A1 B1 I1 I2 I3 n0 n1 n2 n3 n4 n5 n6 n7 ns kind frm tto mine yours a b inode iseq ioff node seq off dest prio born life total data = true then 0 else 3) :
    Calls Try.prog 53 #[.agg #[.int .i64 kind, .int .i64 frm, .int .i64 tto, .int .u64 mine, .int .u64 yours, .int .u64 a, .int .u64 b, .int .i64 inode, .int .u64 iseq, .int .i64 ioff, .int .i64 node, .int .u64 seq, .int .i64 off, .int .i64 dest, .int .i64 prio, .int .i64 born, .int .i64 life, .int .i64 total, .string data]] w (RetI .i64 fe w) := by
  subst hok
  have HO := Lib.hid ho
  have LL' := Lib.hid LL
  have CB' := Lib.hid CB
  have CI' := Lib.hid CI
  have HA := Lib.hid hA
  have HBv := Lib.hid hBv
  have HI := Lib.hid hI
  have HN := Lib.hid hN
  have FE := Lib.hid hfe
  obtain ⟨i0, i1, i2, i3, i4, i5, i6, i7⟩ := hin
  have q0 : ¬ frm < 1 := by omega
  have q1 : ¬ frm > 16 := by omega
  have q2 : ¬ tto < 1 := by omega
  have q3 : ¬ tto > 16 := by omega
  have qb4 : (tto == frm) = false := beq_eq_false_iff_ne.2 i4
  have q5 : ¬ mine < 1 := by omega
  have q6 : ¬ mine > 1099511627776 := by omega
  have q7 : ¬ yours > 1099511627776 := by omega
  clear i0 i1 i2 i3 i4 i5 i6 i7
  clear ho LL CB CI hA hBv hI hN hfe
  have hud : ∀ bx : Bool, (undef = Value.bool bx) = False := fun bx => eq_false (fun h => by cases h)
  have U2' := Lib.hid U2
  clear U2
  go_enter Try.func53, Try.ntmps53
  go_wp2_with fail
  have k0 := Blk.new w 51 #[.int .i64 kind, .int .i64 frm, .int .i64 tto, .int .u64 mine, .int .u64 yours, .int .u64 a, .int .u64 b, .int .i64 inode, .int .u64 iseq, .int .i64 ioff, .int .i64 node, .int .u64 seq, .int .i64 off, .int .i64 dest, .int .i64 prio, .int .i64 born, .int .i64 life, .int .i64 total, .string data]
  have hB := bal (Below.refl w.heap.size w) (.cells #[.int .i64 kind, .int .i64 frm, .int .i64 tto, .int .u64 mine, .int .u64 yours, .int .u64 a, .int .u64 b, .int .i64 inode, .int .u64 iseq, .int .i64 ioff, .int .i64 node, .int .u64 seq, .int .i64 off, .int .i64 dest, .int .i64 prio, .int .i64 born, .int .i64 life, .int .i64 total, .string data] 51)
  refine (U2'.out _).mono ?_
  rintro e w1 ⟨rfl, hb1⟩
  have kk : BK w w.heap.size 51 #[.int .i64 kind, .int .i64 frm, .int .i64 tto, .int .u64 mine, .int .u64 yours, .int .u64 a, .int .u64 b, .int .i64 inode, .int .u64 iseq, .int .i64 ioff, .int .i64 node, .int .u64 seq, .int .i64 off, .int .i64 dest, .int .i64 prio, .int .i64 born, .int .i64 life, .int .i64 total, .string data] w1 := ⟨k0.below hb1, bnext hB hb1⟩
  clear k0 hB hb1 U2'
  obtain ⟨g0, hg0⟩ : ∃ g0, w.heap.size = g0 := ⟨_, rfl⟩
  rw [hg0] at kk ⊢
  have HG0 := Lib.hid hg0
  clear hg0
  have x0 : w1.cell? ⟨g0, 0, none⟩ = some (.int .i64 kind) := kk.b.cell 0
  have hl0 := kk.b.lt
  have K1 := Lib.hid kk
  clear kk
  clear x0
  go_upto_region 4 with fail
  have kA := K1.out.b.alloc (.cells #[.bool ba, .bool bb, .bool bn, .bool bi] 131)
  have kU := Blk.new w1 131 #[.bool ba, .bool bb, .bool bn, .bool bi]
  have hBU := bal K1.out.hB (.cells #[.bool ba, .bool bb, .bool bn, .bool bi] 131)
  obtain ⟨g3, hg3⟩ : ∃ g3, w1.heap.size = g3 := ⟨_, rfl⟩
  rw [hg3] at kU ⊢
  have kk : BK2 w g0 51 #[.int .i64 kind, .int .i64 frm, .int .i64 tto, .int .u64 mine, .int .u64 yours, .int .u64 a, .int .u64 b, .int .i64 inode, .int .u64 iseq, .int .i64 ioff, .int .i64 node, .int .u64 seq, .int .i64 off, .int .i64 dest, .int .i64 prio, .int .i64 born, .int .i64 life, .int .i64 total, .string data] g3 131 #[.bool ba, .bool bb, .bool bn, .bool bi] (w1.alloc (.cells #[.bool ba, .bool bb, .bool bn, .bool bi] 131)) := ⟨kA, kU, hBU⟩
  clear kA kU hBU hl0 K1 hg3
  generalize w1.alloc (.cells #[.bool ba, .bool bb, .bool bn, .bool bi] 131) = w2 at kk ⊢
  have kfr := kk.b
  have K2 := Lib.hid kk
  clear kk
  go_wp2_with (refine wpList_load_row (by rfl) 51 _ (by rfl) g0 (by rfl) 51 #[.int .i64 kind, .int .i64 frm, .int .i64 tto, .int .u64 mine, .int .u64 yours, .int .u64 a, .int .u64 b, .int .i64 inode, .int .u64 iseq, .int .i64 ioff, .int .i64 node, .int .u64 seq, .int .i64 off, .int .i64 dest, .int .i64 prio, .int .i64 born, .int .i64 life, .int .i64 total, .string data] (0, 0) _ kfr Try.underlying51 (by rfl) (by kernel_rfl) ?_)
  refine (LL'.out _).mono ?_
  rintro e w3 ⟨rfl, hb2⟩
  have kk := K2.out.below hb2
  clear K2 hb2 kfr LL'
  have K2 := Lib.hid kk
  clear kk
  go_upto_region 5 with fail
  go_cut [87] (fun s wx => s = .bool false ∧ wx = w3)
  case first =>
    have kk := K2.out
    clear K2 CB' CI' FE
    obtain ⟨_, x1, x2, x3, x4, x5, x6, _, _, _, _, _, _, _, _, _, _, _, _⟩ := kk.b.c19
    obtain ⟨y0, y1, _, _⟩ := kk.c.c4
    have K2 := Lib.hid kk
    clear kk
    cases ba with
    | true =>
      have qa : ¬ a > 1125899906842624 := fun h => HO.out (.inl ⟨rfl, h⟩)
      cases bb with
      | true =>
        have u1 : ¬ b < lo := fun h => HO.out (.inr ⟨rfl, .inl h⟩)
        have u2 : ¬ b > hi := fun h => HO.out (.inr ⟨rfl, .inr h⟩)
        go_wp2_with fail
        go_meet
        exact ⟨congrArg Value.bool (by simp only [Bool.or_eq_false_iff, decide_eq_false_iff_not]; omega), rfl⟩
      | false =>
        go_wp2_with fail
        go_meet
        exact ⟨congrArg Value.bool (by simp only [Bool.or_eq_false_iff, decide_eq_false_iff_not]; omega), rfl⟩
    | false =>
      cases bb with
      | true =>
        have u1 : ¬ b < lo := fun h => HO.out (.inr ⟨rfl, .inl h⟩)
        have u2 : ¬ b > hi := fun h => HO.out (.inr ⟨rfl, .inr h⟩)
        go_wp2_with fail
        go_meet
        exact ⟨congrArg Value.bool (by simp only [Bool.or_eq_false_iff, decide_eq_false_iff_not]; omega), rfl⟩
      | false =>
        go_wp2_with fail
        go_meet
        exact ⟨congrArg Value.bool (by simp only [Bool.or_eq_false_iff, decide_eq_false_iff_not]; omega), rfl⟩
  case rest =>
  obtain ⟨rfl, rfl⟩ := hcut
  have kk := K2.out
  clear K2 HO q0 q1 q2 q3 q5 q6 q7
  obtain ⟨x0, x1, x2, x3, x4, _, _, _, _, _, _, _, _, _, _, _, _, _, _⟩ := kk.b.c19
  obtain ⟨y0, _, _, _⟩ := kk.c.c4
  have hl0 := kk.b.lt
  have hl1 := kk.c.lt
  go_upto_if 100 with (first | (refine wpList_alloc_z (by rfl) 51 (by rfl) _ rfl _ zeroFr ?_) | (refine wpList_buildTo (by rfl) 51 _ (by rfl) _ rfl #[.int .i64 kind, .int .i64 frm, .int .i64 tto, .int .u64 mine, .int .u64 yours, .int .u64 0, .int .u64 0, .int .i64 0, .int .u64 0, .int .i64 0, .int .i64 0, .int .u64 0, .int .i64 0, .int .i64 0, .int .i64 0, .int .i64 0, .int .i64 0, .int .i64 0, .string ⟨#[]⟩] (by kernel_rfl) ?_) | (refine wpList_store_new (by rfl) 51 _ _ (by rfl) wc #[.int .i64 0, .int .i64 0, .int .i64 0, .int .u64 0, .int .u64 0, .int .u64 0, .int .u64 0, .int .i64 0, .int .u64 0, .int .i64 0, .int .i64 0, .int .u64 0, .int .i64 0, .int .i64 0, .int .i64 0, .int .i64 0, .int .i64 0, .int .i64 0, .string ⟨#[]⟩] #[.int .i64 kind, .int .i64 frm, .int .i64 tto, .int .u64 mine, .int .u64 yours, .int .u64 0, .int .u64 0, .int .i64 0, .int .u64 0, .int .i64 0, .int .i64 0, .int .u64 0, .int .i64 0, .int .i64 0, .int .i64 0, .int .i64 0, .int .i64 0, .int .i64 0, .string ⟨#[]⟩] (by kernel_rfl) (by kernel_rfl) (by kernel_rfl) (by kernel_rfl) (by kernel_rfl) (by kernel_rfl) ?_))
  have kz := Blk.new wc 51 #[.int .i64 kind, .int .i64 frm, .int .i64 tto, .int .u64 mine, .int .u64 yours, .int .u64 0, .int .u64 0, .int .i64 0, .int .u64 0, .int .i64 0, .int .i64 0, .int .u64 0, .int .i64 0, .int .i64 0, .int .i64 0, .int .i64 0, .int .i64 0, .int .i64 0, .string ⟨#[]⟩]
  have kb := kk.b.alloc (.cells #[.int .i64 kind, .int .i64 frm, .int .i64 tto, .int .u64 mine, .int .u64 yours, .int .u64 0, .int .u64 0, .int .i64 0, .int .u64 0, .int .i64 0, .int .i64 0, .int .u64 0, .int .i64 0, .int .i64 0, .int .i64 0, .int .i64 0, .int .i64 0, .int .i64 0, .string ⟨#[]⟩] 51)
  have kc := kk.c.alloc (.cells #[.int .i64 kind, .int .i64 frm, .int .i64 tto, .int .u64 mine, .int .u64 yours, .int .u64 0, .int .u64 0, .int .i64 0, .int .u64 0, .int .i64 0, .int .i64 0, .int .u64 0, .int .i64 0, .int .i64 0, .int .i64 0, .int .i64 0, .int .i64 0, .int .i64 0, .string ⟨#[]⟩] 51)
  have hB := bal kk.hB (.cells #[.int .i64 kind, .int .i64 frm, .int .i64 tto, .int .u64 mine, .int .u64 yours, .int .u64 0, .int .u64 0, .int .i64 0, .int .u64 0, .int .i64 0, .int .i64 0, .int .u64 0, .int .i64 0, .int .i64 0, .int .i64 0, .int .i64 0, .int .i64 0, .int .i64 0, .string ⟨#[]⟩] 51)
  obtain ⟨g7, hg7⟩ : ∃ g7, wc.heap.size = g7 := ⟨_, rfl⟩
  have hn0 : ¬ g0 = g7 := by omega
  have hn3 : ¬ g3 = g7 := by omega
  have h07 : g0 < g7 := by omega
  have hw7 : w.heap.size ≤ g7 := by have := HG0.out; omega
  rw [hg7] at kz ⊢
  have k3 : BK3 w g0 51 #[.int .i64 kind, .int .i64 frm, .int .i64 tto, .int .u64 mine, .int .u64 yours, .int .u64 a, .int .u64 b, .int .i64 inode, .int .u64 iseq, .int .i64 ioff, .int .i64 node, .int .u64 seq, .int .i64 off, .int .i64 dest, .int .i64 prio, .int .i64 born, .int .i64 life, .int .i64 total, .string data] g3 131 #[.bool ba, .bool bb, .bool bn, .bool bi] g7 51 #[.int .i64 kind, .int .i64 frm, .int .i64 tto, .int .u64 mine, .int .u64 yours, .int .u64 0, .int .u64 0, .int .i64 0, .int .u64 0, .int .i64 0, .int .i64 0, .int .u64 0, .int .i64 0, .int .i64 0, .int .i64 0, .int .i64 0, .int .i64 0, .int .i64 0, .string ⟨#[]⟩] (wc.alloc (.cells #[.int .i64 kind, .int .i64 frm, .int .i64 tto, .int .u64 mine, .int .u64 yours, .int .u64 0, .int .u64 0, .int .i64 0, .int .u64 0, .int .i64 0, .int .i64 0, .int .u64 0, .int .i64 0, .int .i64 0, .int .i64 0, .int .i64 0, .int .i64 0, .int .i64 0, .string ⟨#[]⟩] 51)) := ⟨kb, kc, kz, hB⟩
  clear kz kb kc hB kk hg7 x0 x1 x2 x3 x4 y0 hl0 hl1
  generalize wc.alloc (.cells #[.int .i64 kind, .int .i64 frm, .int .i64 tto, .int .u64 mine, .int .u64 yours, .int .u64 0, .int .u64 0, .int .i64 0, .int .u64 0, .int .i64 0, .int .i64 0, .int .u64 0, .int .i64 0, .int .i64 0, .int .i64 0, .int .i64 0, .int .i64 0, .int .i64 0, .string ⟨#[]⟩] 51) = v0 at k3 ⊢
  obtain ⟨_, _, _, _, _, x5, _, _, _, _, _, _, _, _, _, _, _, _, _⟩ := k3.b.c19
  obtain ⟨y0, y1, _, _⟩ := k3.c.c4
  obtain ⟨_, _, _, _, _, z5, _, _, _, _, _, _, _, _, _, _, _, _, _⟩ := k3.d.c19
  obtain ⟨_, _, _, _, _, f5, _, _, _, _, _, _, _, _, _, _, _, _, _⟩ := k3.d.f19
  have hl0 := k3.b.lt
  have hl1 := k3.c.lt
  have hl2 := k3.d.lt
  have K3 := Lib.hid k3
  clear k3
  go_cut [] (fun wx => BK3 w g0 51 #[.int .i64 kind, .int .i64 frm, .int .i64 tto, .int .u64 mine, .int .u64 yours, .int .u64 a, .int .u64 b, .int .i64 inode, .int .u64 iseq, .int .i64 ioff, .int .i64 node, .int .u64 seq, .int .i64 off, .int .i64 dest, .int .i64 prio, .int .i64 born, .int .i64 life, .int .i64 total, .string data] g3 131 #[.bool ba, .bool bb, .bool bn, .bool bi] g7 51 #[.int .i64 kind, .int .i64 frm, .int .i64 tto, .int .u64 mine, .int .u64 yours, .int .u64 A1, .int .u64 0, .int .i64 0, .int .u64 0, .int .i64 0, .int .i64 0, .int .u64 0, .int .i64 0, .int .i64 0, .int .i64 0, .int .i64 0, .int .i64 0, .int .i64 0, .string ⟨#[]⟩] wx)
  case first =>
    cases ba with
    | true =>
      obtain rfl : A1 = a := HA.out.trans (if_pos rfl)
      go_wp2_with fail
      go_meet
      exact ⟨(K3.out.b.far (p := ⟨g7, 5, none⟩) (by first | exact hn0 | exact hn3) (.int .u64 A1)), (K3.out.c.far (p := ⟨g7, 5, none⟩) (by first | exact hn0 | exact hn3) (.int .u64 A1)), (K3.out.d.set 5 (.int .u64 A1)), (bset K3.out.hB (p := ⟨g7, 5, none⟩) hw7 (.int .u64 A1))⟩
    | false =>
      obtain rfl : A1 = 0 := HA.out.trans (if_neg (by decide))
      go_wp2_with fail
      go_meet
      exact K3.out
  case rest =>
  have k3 := hcut
  clear K3 x5 y0 y1 z5 f5 hl0 hl1 hl2
  obtain ⟨_, _, _, _, _, _, x6, _, _, _, _, _, _, _, _, _, _, _, _⟩ := k3.b.c19
  obtain ⟨_, y1, y2, _⟩ := k3.c.c4
  obtain ⟨_, _, _, _, _, _, z6, _, _, _, _, _, _, _, _, _, _, _, _⟩ := k3.d.c19
  obtain ⟨_, _, _, _, _, _, f6, _, _, _, _, _, _, _, _, _, _, _, _⟩ := k3.d.f19
  have hl0 := k3.b.lt
  have hl1 := k3.c.lt
  have hl2 := k3.d.lt
  have K3 := Lib.hid k3
  clear k3
  go_upto_if 105 with fail
  go_cut [] (fun wx => BK3 w g0 51 #[.int .i64 kind, .int .i64 frm, .int .i64 tto, .int .u64 mine, .int .u64 yours, .int .u64 a, .int .u64 b, .int .i64 inode, .int .u64 iseq, .int .i64 ioff, .int .i64 node, .int .u64 seq, .int .i64 off, .int .i64 dest, .int .i64 prio, .int .i64 born, .int .i64 life, .int .i64 total, .string data] g3 131 #[.bool ba, .bool bb, .bool bn, .bool bi] g7 51 #[.int .i64 kind, .int .i64 frm, .int .i64 tto, .int .u64 mine, .int .u64 yours, .int .u64 A1, .int .u64 B1, .int .i64 0, .int .u64 0, .int .i64 0, .int .i64 0, .int .u64 0, .int .i64 0, .int .i64 0, .int .i64 0, .int .i64 0, .int .i64 0, .int .i64 0, .string ⟨#[]⟩] wx)
  case first =>
    cases bb with
    | true =>
      obtain rfl : B1 = b := HBv.out.trans (if_pos rfl)
      go_wp2_with fail
      go_meet
      exact ⟨(K3.out.b.far (p := ⟨g7, 6, none⟩) (by first | exact hn0 | exact hn3) (.int .u64 B1)), (K3.out.c.far (p := ⟨g7, 6, none⟩) (by first | exact hn0 | exact hn3) (.int .u64 B1)), (K3.out.d.set 6 (.int .u64 B1)), (bset K3.out.hB (p := ⟨g7, 6, none⟩) hw7 (.int .u64 B1))⟩
    | false =>
      obtain rfl : B1 = 0 := HBv.out.trans (if_neg (by decide))
      go_wp2_with fail
      go_meet
      exact K3.out
  case rest =>
  have k3 := hcut
  clear K3 x6 y1 y2 z6 f6 hl0 hl1 hl2
  obtain ⟨_, _, _, _, _, _, _, _, _, _, x10, x11, x12, x13, x14, x15, x16, x17, x18⟩ := k3.b.c19
  obtain ⟨_, _, y2, y3⟩ := k3.c.c4
  obtain ⟨_, _, _, _, _, _, _, _, _, _, z10, z11, z12, z13, z14, z15, z16, z17, z18⟩ := k3.d.c19
  obtain ⟨_, _, _, _, _, _, _, _, _, _, f10, f11, f12, f13, f14, f15, f16, f17, f18⟩ := k3.d.f19
  have hl0 := k3.b.lt
  have hl1 := k3.c.lt
  have hl2 := k3.d.lt
  have K3 := Lib.hid k3
  clear k3
  have FE1 : Hid (¬ (bn = true ∧ be ≠ 0) → fe = if bi = true ∧ ie ≠ 0 then ie else if frEqB kind frm tto mine yours A1 B1 I1 I2 I3 n0 n1 n2 n3 n4 n5 n6 n7 ns kind frm tto mine yours a b inode iseq ioff node seq off dest prio born life total data = true then 0 else 3) := Lib.hid (fun h => FE.out.trans (if_neg h))
  go_upto_if 110 with fail
  go_cut [] (fun wx => BK3 w g0 51 #[.int .i64 kind, .int .i64 frm, .int .i64 tto, .int .u64 mine, .int .u64 yours, .int .u64 a, .int .u64 b, .int .i64 inode, .int .u64 iseq, .int .i64 ioff, .int .i64 node, .int .u64 seq, .int .i64 off, .int .i64 dest, .int .i64 prio, .int .i64 born, .int .i64 life, .int .i64 total, .string data] g3 131 #[.bool ba, .bool bb, .bool bn, .bool bi] g7 51 #[.int .i64 kind, .int .i64 frm, .int .i64 tto, .int .u64 mine, .int .u64 yours, .int .u64 A1, .int .u64 B1, .int .i64 0, .int .u64 0, .int .i64 0, .int .i64 n0, .int .u64 n1, .int .i64 n2, .int .i64 n3, .int .i64 n4, .int .i64 n5, .int .i64 n6, .int .i64 n7, .string ns] wx ∧ ¬ (bn = true ∧ be ≠ 0))
  case first =>
    cases bn with
    | true =>
      have e := HN.out.trans (if_pos rfl)
      simp only [Prod.mk.injEq] at e
      obtain ⟨rfl, rfl, rfl, rfl, rfl, rfl, rfl, rfl, rfl⟩ := e
      go_wp2_with fail
      refine (CB'.out _).mono ?_
      rintro e v1 ⟨rfl, hbv⟩
      have kq := K3.out.set9 (.int .i64 n0) (.int .u64 n1) (.int .i64 n2) (.int .i64 n3) (.int .i64 n4) (.int .i64 n5) (.int .i64 n6) (.int .i64 n7) (.string ns) hn0 hn3 hw7
      have kq2 := kq.below hbv
      clear kq hbv
      clear K3 x10 x11 x12 x13 x14 x15 x16 x17 x18 y2 y3 z10 z11 z12 z13 z14 z15 z16 z17 z18 f10 f11 f12 f13 f14 f15 f16 f17 f18 hl0 hl1 hl2
      by_cases b0 : be = 0
      · subst b0
        go_wp2_with fail
        go_meet
        exact ⟨kq2, fun h => h.2 rfl⟩
      · have R := Lib.hid (FE.out.trans (if_pos ⟨by first | exact rfl | trivial, b0⟩))
        have b1 : (be != 0) = true := by simpa using b0
        clear b0
        go_wp2_with fail
        go_ret
        exact ⟨by rw [R.out]; rfl, kq2.hB⟩
    | false =>
      have e := HN.out.trans (if_neg (by decide))
      simp only [Prod.mk.injEq] at e
      obtain ⟨rfl, rfl, rfl, rfl, rfl, rfl, rfl, rfl, rfl⟩ := e
      go_wp2_with fail
      go_meet
      exact ⟨K3.out, fun h => by cases h.1⟩
  case rest =>
  obtain ⟨k3, hnb⟩ := hcut
  have FE2 := Lib.hid (FE1.out hnb)
  clear hnb FE1 FE
  clear K3 x10 x11 x12 x13 x14 x15 x16 x17 x18 y2 y3 z10 z11 z12 z13 z14 z15 z16 z17 z18 f10 f11 f12 f13 f14 f15 f16 f17 f18 hl0 hl1 hl2
  obtain ⟨_, _, _, _, _, _, _, x7, x8, x9, _, _, _, _, _, _, _, _, _⟩ := k3.b.c19
  obtain ⟨_, _, _, y3⟩ := k3.c.c4
  obtain ⟨_, _, _, _, _, _, _, z7, z8, z9, _, _, _, _, _, _, _, _, _⟩ := k3.d.c19
  obtain ⟨_, _, _, _, _, _, _, f7, f8, f9, _, _, _, _, _, _, _, _, _⟩ := k3.d.f19
  have hl0 := k3.b.lt
  have hl1 := k3.c.lt
  have hl2 := k3.d.lt
  have K3 := Lib.hid k3
  clear k3
  have FE4 : Hid (¬ (bi = true ∧ ie ≠ 0) → fe = if frEqB kind frm tto mine yours A1 B1 I1 I2 I3 n0 n1 n2 n3 n4 n5 n6 n7 ns kind frm tto mine yours a b inode iseq ioff node seq off dest prio born life total data = true then 0 else 3) := Lib.hid (fun h => FE2.out.trans (if_neg h))
  go_upto_if 121 with fail
  go_cut [] (fun wx => BK3 w g0 51 #[.int .i64 kind, .int .i64 frm, .int .i64 tto, .int .u64 mine, .int .u64 yours, .int .u64 a, .int .u64 b, .int .i64 inode, .int .u64 iseq, .int .i64 ioff, .int .i64 node, .int .u64 seq, .int .i64 off, .int .i64 dest, .int .i64 prio, .int .i64 born, .int .i64 life, .int .i64 total, .string data] g3 131 #[.bool ba, .bool bb, .bool bn, .bool bi] g7 51 #[.int .i64 kind, .int .i64 frm, .int .i64 tto, .int .u64 mine, .int .u64 yours, .int .u64 A1, .int .u64 B1, .int .i64 I1, .int .u64 I2, .int .i64 I3, .int .i64 n0, .int .u64 n1, .int .i64 n2, .int .i64 n3, .int .i64 n4, .int .i64 n5, .int .i64 n6, .int .i64 n7, .string ns] wx ∧ ¬ (bi = true ∧ ie ≠ 0))
  case first =>
    cases bi with
    | true =>
      have e := HI.out.trans (if_pos rfl)
      simp only [Prod.mk.injEq] at e
      obtain ⟨rfl, rfl, rfl⟩ := e
      go_wp2_with fail
      refine (CI'.out _).mono ?_
      rintro e v1 ⟨rfl, hbv⟩
      have kq := K3.out.set3 (.int .i64 I1) (.int .u64 I2) (.int .i64 I3) hn0 hn3 hw7
      have kq2 := kq.below hbv
      clear kq hbv
      clear K3 x7 x8 x9 y3 z7 z8 z9 f7 f8 f9 hl0 hl1 hl2
      by_cases b0 : ie = 0
      · subst b0
        go_wp2_with fail
        go_meet
        exact ⟨kq2, fun h => h.2 rfl⟩
      · have R := Lib.hid (FE2.out.trans (if_pos ⟨by first | exact rfl | trivial, b0⟩))
        have b1 : (ie != 0) = true := by simpa using b0
        clear b0
        go_wp2_with fail
        go_ret
        exact ⟨by rw [R.out]; rfl, kq2.hB⟩
    | false =>
      have e := HI.out.trans (if_neg (by decide))
      simp only [Prod.mk.injEq] at e
      obtain ⟨rfl, rfl, rfl⟩ := e
      go_wp2_with fail
      go_meet
      exact ⟨K3.out, fun h => by cases h.1⟩
  case rest =>
  obtain ⟨k3, hni⟩ := hcut
  have FE3 := Lib.hid (FE4.out hni)
  clear hni FE2 FE4
  clear K3 x7 x8 x9 y3 z7 z8 z9 f7 f8 f9 hl0 hl1 hl2
  have kfb := k3.b
  have kfd := k3.d
  have HB := Lib.hid k3.hB
  have hne := run_ne_fr
  clear k3
  obtain ⟨qq, hqq⟩ : ∃ qq, frEqB kind frm tto mine yours A1 B1 I1 I2 I3 n0 n1 n2 n3 n4 n5 n6 n7 ns kind frm tto mine yours a b inode iseq ioff node seq off dest prio born life total data = qq := ⟨_, rfl⟩
  rw [hqq] at FE3
  have HQ : (!(frEqB kind frm tto mine yours A1 B1 I1 I2 I3 n0 n1 n2 n3 n4 n5 n6 n7 ns kind frm tto mine yours a b inode iseq ioff node seq off dest prio born life total data)) = !qq := by rw [hqq]
  clear hqq
  cases qq with
  | true =>
    have R := Lib.hid (FE3.out.trans (if_pos rfl))
    go_wp2_with (first | (refine wpList_load_row (by rfl) 51 _ (by rfl) g7 (by rfl) 51 #[.int .i64 kind, .int .i64 frm, .int .i64 tto, .int .u64 mine, .int .u64 yours, .int .u64 A1, .int .u64 B1, .int .i64 I1, .int .u64 I2, .int .i64 I3, .int .i64 n0, .int .u64 n1, .int .i64 n2, .int .i64 n3, .int .i64 n4, .int .i64 n5, .int .i64 n6, .int .i64 n7, .string ns] (0, 0) _ kfd Try.underlying51 (by rfl) (by kernel_rfl) ?_) | (refine wpList_load_row (by rfl) 51 _ (by rfl) g0 (by rfl) 51 #[.int .i64 kind, .int .i64 frm, .int .i64 tto, .int .u64 mine, .int .u64 yours, .int .u64 a, .int .u64 b, .int .i64 inode, .int .u64 iseq, .int .i64 ioff, .int .i64 node, .int .u64 seq, .int .i64 off, .int .i64 dest, .int .i64 prio, .int .i64 born, .int .i64 life, .int .i64 total, .string data] (0, 0) _ kfb Try.underlying51 (by rfl) (by kernel_rfl) ?_))
    go_ret
    exact ⟨by rw [R.out]; rfl, HB.out⟩
  | false =>
    have R := Lib.hid (FE3.out.trans (if_neg (by decide)))
    go_wp2_with (first | (refine wpList_load_row (by rfl) 51 _ (by rfl) g7 (by rfl) 51 #[.int .i64 kind, .int .i64 frm, .int .i64 tto, .int .u64 mine, .int .u64 yours, .int .u64 A1, .int .u64 B1, .int .i64 I1, .int .u64 I2, .int .i64 I3, .int .i64 n0, .int .u64 n1, .int .i64 n2, .int .i64 n3, .int .i64 n4, .int .i64 n5, .int .i64 n6, .int .i64 n7, .string ns] (0, 0) _ kfd Try.underlying51 (by rfl) (by kernel_rfl) ?_) | (refine wpList_load_row (by rfl) 51 _ (by rfl) g0 (by rfl) 51 #[.int .i64 kind, .int .i64 frm, .int .i64 tto, .int .u64 mine, .int .u64 yours, .int .u64 a, .int .u64 b, .int .i64 inode, .int .u64 iseq, .int .i64 ioff, .int .i64 node, .int .u64 seq, .int .i64 off, .int .i64 dest, .int .i64 prio, .int .i64 born, .int .i64 life, .int .i64 total, .string data] (0, 0) _ kfb Try.underlying51 (by rfl) (by kernel_rfl) ?_))
    go_ret
    exact ⟨by rw [R.out]; rfl, HB.out⟩
end Go.Proofs.Ytfgkkflbpfocjaa

