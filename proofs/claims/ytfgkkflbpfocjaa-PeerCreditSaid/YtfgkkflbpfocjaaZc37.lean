/- The receiver takes what a frame says. -/
import Derived.Test.YtfgkkflbpfocjaaZc36
import Derived.BigQuiet
namespace Go.Proofs.Ytfgkkflbpfocjaa
open Go.RowKit
open List renaming getElem_toArray → zz1, getElem_cons_succ → zz2, getElem_cons_zero → zz3, setIfInBounds_toArray → zz4, set_cons_zero → zz5, set_cons_succ → zz6
set_option linter.unusedVariables false
set_option linter.unusedSimpArgs false

theorem frmR {X : Nat → Prop} {w : World} {R : Array Value} {rt ro : Int} {ru : Bool} {rr : Rec} (h : PrN X w (.agg R) (rP rt ru ro rr)) : ∃ As cs At ct Ak ck, R = #[.int .i64 1, .int .u64 rt, .bool ru, .int .u64 ro, .int .u64 0, .int .u64 0, .int .u64 0, .slice As 0 cs, .int .u64 rr.g, .int .u64 rr.r, .int .u64 rr.fl, .slice At rr.tk.length ct, .slice Ak rr.kp.length ck] := by
  obtain ⟨_, _, _, _, _, _, e, _⟩ := h
  cases e
  exact ⟨_, _, _, _, _, _, rfl⟩
theorem frmS {X : Nat → Prop} {w : World} {S : Array Value} {st : Int} {su : Bool} {ss : Led} (h : PrN X w (.agg S) (sP st su ss)) : ∃ As cs At ct Ak ck, S = #[.int .i64 2, .int .u64 st, .bool su, .int .u64 0, .int .u64 ss.g, .int .u64 ss.n, .int .u64 ss.r, .slice As ss.sl.length cs, .int .u64 0, .int .u64 0, .int .u64 0, .slice At 0 ct, .slice Ak 0 ck] := by
  obtain ⟨_, _, _, _, _, _, e, _⟩ := h
  cases e
  exact ⟨_, _, _, _, _, _, rfl⟩
def TakenPost (i st : Int) (su : Bool) (ss : Led) (rt ro bs br : Int) (way : List Fr) (xb : Nat) (S : Array Value) (Vw : Value) (w : World) (e : Ending) (w' : World) : Prop := e = .returned (.tuple #[]) ∧ Below xb w w' ∧ ∃ z R', Inv i st su ss rt true ro z bs br way ∧ PX NoE w' xb S R' bs br Vw (sP st su ss) (rP rt true ro z) way
theorem reads_sl {w : World} {v : Value} {l : List Sl} (h : SlsAt w v l) {i : Nat} {x : Sl} (hx : l[i]? = some x) : ∃ b o c, v = .slice (some ⟨b, o, none⟩) l.length c ∧ b < w.heap.size ∧ w.cell? ⟨b, o + i * 5, none⟩ = some (.int .u64 x.off) ∧ w.cell? ⟨b, o + i * 5 + 1, none⟩ = some (.int .u64 x.size) ∧ w.cell? ⟨b, o + i * 5 + 2, none⟩ = some (.int .i64 x.node) ∧ w.cell? ⟨b, o + i * 5 + 3, none⟩ = some (.int .u64 x.seq) ∧ w.cell? ⟨b, o + i * 5 + 4, none⟩ = some (.int .i64 x.io) := by
  obtain ⟨A, c, rfl, h1, h2, hR⟩ := h
  obtain ⟨b, o, rfl, hb, hc⟩ := reads_fl sl5 hR rfl hx
  exact ⟨b, o, c, rfl, hb, hc 0 _ rfl, hc 1 _ rfl, hc 2 _ rfl, hc 3 _ rfl, hc 4 _ rfl⟩

set_option maxRecDepth 100000 in
set_option maxHeartbeats 16000000 in
theorem ptake_any {i st : Int} {su : Bool} {ss : Led} {rt ro : Int} {rr : Rec} {bs br : Int} {way : List Fr} (hI : Inv i st su ss rt true ro rr bs br way) (hrt : 0 < rt) (hWY : WY way) (f : Fr) (hf : f ∈ way) (hto : f.to = 2) (hm : f.mine = rt) (hy : f.yours = br)
    (xb : Nat) (S R : Array Value) (Vw : Value) (w : World) (h : PX NoE w xb S R bs br Vw (sP st su ss) (rP rt true ro rr) way) :
    Calls Try.prog 87 #[.pointer (some ⟨xb, 0, none⟩), f.val] w (TakenPost i st su ss rt ro bs br way xb S Vw w) := by
  have TI0 := Lib.hid hI.ti
  have TG := Lib.hid hI.tg
  obtain ⟨hE0, ha0, hfb0, hdb⟩ := hI.db hf hto hm hy
  have DB0 := Lib.hid hdb
  have hfb1 := (hI.wfF hWY hf).1.b.2
  have OS := Lib.hid hI.os
  have WS := Lib.hid hI.ws
  have TF := Lib.hid (fun (z : Rec) t => hI.tfin rfl hrt (z := z) t)
  obtain ⟨sync, hsy⟩ : ∃ s : Prop, (rt = bs ∧ st = br) = s := ⟨_, rfl⟩
  rw [hsy] at TI0 TG DB0 TF
  obtain ⟨G, hG⟩ : ∃ G, rr.g = G := ⟨_, rfl⟩
  rw [hG] at TI0 TG TF
  clear hI hdb hsy hG hE0
  obtain ⟨As', cs', A0, c0, B0, d0, rfl⟩ := frmR h.r
  obtain ⟨Sa, sc, hS7⟩ := h.s.sl7
  have hS7 : S[7]? = some (.slice Sa ss.sl.length sc) := hS7
  have hSl := ((okL_iff ss).1 OS.out).2.2.2.1
  rw [fr_val]
  obtain ⟨C, hC⟩ : ∃ C, f.cells.toArray = C := ⟨_, rfl⟩
  have C0 : C[0]? = some (.int .i64 f.kind) := by rw [← hC]; rfl
  have C5 : C[5]? = some (.int .u64 f.a) := by rw [← hC]; rfl
  have C6 : C[6]? = some (.int .u64 f.b) := by rw [← hC]; rfl
  rw [hC]
  clear hC
  have NX3 : Hid (¬ w.heap.size = xb) := Lib.hid (by have := h.lt; omega)
  go_enter Try.func87, Try.ntmps87
  go_upto_region 1 with fail
  have kf := Blk.new w 51 C
  have hB : Below xb w (w.alloc (.cells C 51)) := (Below.refl w.heap.size w |>.mono (Nat.le_of_lt h.lt)).alloc (Nat.le_of_lt h.lt) _
  replace h := h.alloc (.cells C 51)
  generalize w.alloc (.cells C 51) = w1 at kf h hB ⊢
  obtain ⟨g3, hg3⟩ : ∃ g3, w.heap.size = g3 := ⟨_, rfl⟩
  rw [hg3] at kf NX3 ⊢
  clear hg3
  have q0 := (kf.cell 0).trans C0
  have q5 := (kf.cell 5).trans C5
  have q6 := (kf.cell 6).trans C6
  by_cases k3 : f.kind = 3
  · have e3 : (f.kind == 3) = true := by simpa using k3
    have FT : Hid (0 ≤ f.b ∧ (sync → f.b ≤ ss.n)) := Lib.hid ⟨hfb0, fun s => (DB0.out s).1 k3⟩
    go_wp2_with fail
    clear q0 q5 q6
    go_loopw [5] (fun s5 wr => ∃ (k : Nat) (z : Rec) (Ak : Option Addr) (ck : Nat) (Bk : Option Addr) (dk : Nat), k ≤ ss.sl.length ∧ s5 = .int .i64 k ∧ TI sync ss G z ∧ PX NoE wr xb S #[.int .i64 1, .int .u64 rt, .bool true, .int .u64 ro, .int .u64 0, .int .u64 0, .int .u64 0, .slice As' 0 cs', .int .u64 z.g, .int .u64 z.r, .int .u64 z.fl, .slice Ak z.tk.length ck, .slice Bk z.kp.length dk] bs br Vw (sP st su ss) (rP rt true ro z) way ∧ Blk wr g3 51 C ∧ Below xb w wr) (fun s5 _ => ss.sl.length - (intOf s5).toNat)
    case atStart => exact ⟨0, rr, A0, c0, B0, d0, Nat.zero_le _, rfl, TI0.out, h, kf, hB⟩
    case round =>
      clear h kf hB TI0
      obtain ⟨k, z, Ak, ck, Bk, dk, hk, rfl, hT, h, kf, hB⟩ := hrel
      have c7 := (h.cS (i := 7) (by decide)).trans hS7
      have q5 := (kf.cell 5).trans C5
      by_cases hlt : k < ss.sl.length
      · obtain ⟨x, hx⟩ : ∃ x, ss.sl[k]? = some x := ⟨_, List.getElem?_eq_getElem hlt⟩
        have HX := Lib.hid (List.mem_of_getElem? hx)
        obtain ⟨b, o, cc, e7, hbl, p0, p1, p2, p3, p4⟩ := reads_sl (h.s.slat hS7) hx
        cases e7
        have hki : (k : Int) < ss.sl.length := by omega
        have hk0 : (0 : Int) ≤ k := by omega
        clear hx
        by_cases hoa : x.off = f.a
        · have TKE : Hid (∀ (z : Rec) (h : TI sync ss G z) (vt vk : Value) (w : World), RgsAt w vt z.tk → KpsAt w vk z.kp → Calls Try.prog 111 #[.agg #[.int .u64 z.g, .int .u64 z.r, .int .u64 z.fl, vt, vk], .int .u64 f.a, .int .u64 x.size] w (Post1 (TI sync ss G) w)) := Lib.hid (fun z h vt vk w ht hk => by rw [← hoa]; exact take_ti h OS.out WS.out TG.out HX.out vt vk w ht hk)
          rw [hoa] at p0
          clear hoa
          have hl3 : g3 < wr.heap.size := kf.lt
          go_upto_region 9 with fail
          clear hl3
          clear p0 p1 p2 p3 p4 c7 q5
          have hxl : xb ≤ wr.heap.size := Nat.le_of_lt h.lt
          have k6 := Blk.new wr 81 #[.int .u64 f.a, .int .u64 x.size, .int .i64 x.node, .int .u64 x.seq, .int .i64 x.io]
          replace h := h.alloc (.cells #[.int .u64 f.a, .int .u64 x.size, .int .i64 x.node, .int .u64 x.seq, .int .i64 x.io] 81)
          replace kf := kf.alloc (.cells #[.int .u64 f.a, .int .u64 x.size, .int .i64 x.node, .int .u64 x.seq, .int .i64 x.io] 81)
          replace hB := hB.alloc hxl (.cells #[.int .u64 f.a, .int .u64 x.size, .int .i64 x.node, .int .u64 x.seq, .int .i64 x.io] 81)
          generalize wr.alloc (.cells #[.int .u64 f.a, .int .u64 x.size, .int .i64 x.node, .int .u64 x.seq, .int .i64 x.io] 81) = w2 at k6 h kf hB ⊢
          generalize wr.heap.size = g6 at k6 ⊢
          refine wp_region_held_drew (S := fun wy => Below xb w wy ∧ PX NoE wy xb S #[.int .i64 1, .int .u64 rt, .bool true, .int .u64 ro, .int .u64 0, .int .u64 0, .int .u64 0, .slice As' 0 cs', .int .u64 z.g, .int .u64 z.r, .int .u64 z.fl, .slice Ak z.tk.length ck, .slice Bk z.kp.length dk] bs br Vw (sP st su ss) (rP rt true ro z) way ∧ Blk wy g3 51 C ∧ Blk wy g6 81 #[.int .u64 f.a, .int .u64 x.size, .int .i64 x.node, .int .u64 x.seq, .int .i64 x.io]) (by kernel_rfl) ⟨hB.drew, h.drew, kf.drew, k6.drew⟩ (fun hH => ?_)
          generalize w2.drew = xq1 at hH ⊢
          refine tkH 0 rfl (yieldsIf_pure _ (.pointer (some ⟨xb, 0, none⟩)) rfl (.inl rfl) rfl) hH ?_
          try simp only [zz1, zz2, zz3, Act.put, zz4, zz5, zz6]
          refine tkH 1 rfl (yieldsIf_cell (.pointer (some ⟨xb, 0, none⟩)) rfl (fun w h => rfl)) hH ?_
          try simp only [zz1, zz2, zz3, Act.put, zz4, zz5, zz6]
          refine tkH 2 rfl (yieldsIf_cell (.pointer (some ⟨xb, 13, none⟩)) rfl (fun w h => by go_simp)) hH ?_
          try simp only [zz1, zz2, zz3, Act.put, zz4, zz5, zz6]
          refine tkH 3 rfl (yieldsIf_cell (.pointer (some ⟨xb, 21, none⟩)) rfl (fun w h => by go_simp)) hH ?_
          try simp only [zz1, zz2, zz3, Act.put, zz4, zz5, zz6]
          refine tkH 4 rfl (yieldsIf_load_mid rfl 29 _ rfl xb 21 rfl [.int .u64 z.g, .int .u64 z.r, .int .u64 z.fl, .slice Ak z.tk.length ck, .slice Bk z.kp.length dk] _ (fun w h => h.2.1.rngRp 8 5 _ rfl (by decide)) Try.underlying29 rfl (by kernel_rfl)) hH ?_
          try simp only [zz1, zz2, zz3, Act.put, zz4, zz5, zz6]
          refine tkH 5 rfl (yieldsIf_cell (.pointer (some ⟨g6, 0, none⟩)) rfl (fun w h => by go_simp)) hH ?_
          try simp only [zz1, zz2, zz3, Act.put, zz4, zz5, zz6]
          refine tkH 6 rfl (yieldsIf_cell (.int .u64 f.a) rfl (fun wy h => by have j0 := h.2.2.2.cell 0; go_simp)) hH ?_
          try simp only [zz1, zz2, zz3, Act.put, zz4, zz5, zz6]
          refine tkH 7 rfl (yieldsIf_cell (.pointer (some ⟨g6, 1, none⟩)) rfl (fun w h => by go_simp)) hH ?_
          try simp only [zz1, zz2, zz3, Act.put, zz4, zz5, zz6]
          refine tkH 8 rfl (yieldsIf_cell (.int .u64 x.size) rfl (fun wy h => by have j0 := h.2.2.2.cell 1; go_simp)) hH ?_
          try simp only [zz1, zz2, zz3, Act.put, zz4, zz5, zz6]
          refine rdH [9, 13] ?_
          refine AllReadyH.cons rfl (fun KK hK => ?_) ?_
          · go_simp
            refine (TKE.out z hT _ _ _ hH.2.1.r.rows.2.1 hH.2.1.r.rows.2.2).mono ?_
            rintro e xq2 ⟨zt, et, ⟨At, ct, Bt, dt, rfl, hr2, hkp2, hb2⟩, hq2⟩
            have pz2 := (PrN.rcv hH.2.1.r hb2 (.ofB hr2 (hH.2.1.newX (noE_lt _))) (.ofB hkp2 (hH.2.1.newX (noE_lt _))))
            have HQt := Lib.hid hq2
            clear hq2
            refine hK.out _ _ ⟨hH.1.trans (hb2.mono (Nat.le_of_lt hH.2.1.lt)), hH.2.1.below hb2, hH.2.2.1.below hb2, hH.2.2.2.below hb2⟩ (fun hH2 => ?_)
            clear hK KK
            try simp only [zz1, zz2, zz3, Act.put, zz4, zz5, zz6]
            refine tkH 10 rfl (yieldsIf_pure _ (.tuple #[.agg #[.int .u64 zt.g, .int .u64 zt.r, .int .u64 zt.fl, .slice At zt.tk.length ct, .slice Bt zt.kp.length dt], .int .i64 et]) rfl (.inl rfl) rfl) hH2 ?_
            try simp only [zz1, zz2, zz3, Act.put, zz4, zz5, zz6]
            refine tkH 11 rfl (yieldsIf_cell (.agg #[.int .u64 zt.g, .int .u64 zt.r, .int .u64 zt.fl, .slice At zt.tk.length ct, .slice Bt zt.kp.length dt]) rfl (fun w h => by go_simp)) hH2 ?_
            try simp only [zz1, zz2, zz3, Act.put, zz4, zz5, zz6]
            refine tkH 12 rfl (yieldsIf_cell (.int .i64 et) rfl (fun w h => by go_simp)) hH2 ?_
            try simp only [zz1, zz2, zz3, Act.put, zz4, zz5, zz6]
            refine rdH [13] ?_
            refine c1H rfl fun KK hK => ?_
            rw [if_pos (by rfl)]
            refine wp_alloc_z 29 (by rfl) _ rfl #[.int .u64 0, .int .u64 0, .int .u64 0, .slice none 0 0, .slice none 0 0] (fun w => by kernel_rfl) ?_
            have kg3 := Blk.new xq2 29 #[.int .u64 0, .int .u64 0, .int .u64 0, .slice none 0 0, .slice none 0 0]
            have pe3 := PX.allocE hH2.2.1 (.cells #[.int .u64 0, .int .u64 0, .int .u64 0, .slice none 0 0, .slice none 0 0] 29)
            have pz3 := PrN.allocE pz2 (.cells #[.int .u64 0, .int .u64 0, .int .u64 0, .slice none 0 0, .slice none 0 0] 29)
            have hxg3 : xb ≤ xq2.heap.size := Nat.le_of_lt hH2.2.1.lt
            have ne3_0 : ¬ g3 = xq2.heap.size := Nat.ne_of_lt hH2.2.2.1.lt
            have ne3_1 : ¬ g6 = xq2.heap.size := Nat.ne_of_lt hH2.2.2.2.lt
            have hc3 : (fun wy => Below xb w wy ∧ PX NoE wy xb S #[.int .i64 1, .int .u64 rt, .bool true, .int .u64 ro, .int .u64 0, .int .u64 0, .int .u64 0, .slice As' 0 cs', .int .u64 z.g, .int .u64 z.r, .int .u64 z.fl, .slice Ak z.tk.length ck, .slice Bk z.kp.length dk] bs br Vw (sP st su ss) (rP rt true ro z) way ∧ Blk wy g3 51 C ∧ Blk wy g6 81 #[.int .u64 f.a, .int .u64 x.size, .int .i64 x.node, .int .u64 x.seq, .int .i64 x.io]) (xq2.alloc (.cells #[.int .u64 0, .int .u64 0, .int .u64 0, .slice none 0 0, .slice none 0 0] 29)) := ⟨hH2.1.alloc (Nat.le_of_lt hH2.2.1.lt) _, hH2.2.1.alloc _, hH2.2.2.1.alloc _, hH2.2.2.2.alloc _⟩
            generalize xq2.alloc (.cells #[.int .u64 0, .int .u64 0, .int .u64 0, .slice none 0 0, .slice none 0 0] 29) = xq3 at hc3 kg3 pe3 pz3 ⊢
            generalize xq2.heap.size = gq3 at kg3 pe3 pz3 hxg3 ne3_0 ne3_1 ⊢
            refine hK.out _ _ hc3 (fun hH3 => ?_)
            clear hc3
            clear hK KK
            try simp only [zz1, zz2, zz3, Act.put, zz4, zz5, zz6]
            refine rdH [14] ?_
            refine c1H rfl fun KK hK => ?_
            rw [if_pos (by rfl)]
            refine wp_store_mid 29 _ _ rfl gq3 0 #[.int .u64 zt.g, .int .u64 zt.r, .int .u64 zt.fl, .slice At zt.tk.length ct, .slice Bt zt.kp.length dt] rfl rfl (Blk.there kg3 0 _ (Nat.le_refl _)) (by kernel_rfl) (by kernel_rfl) ?_
            have kg4 : Blk (xq3.setCells gq3 0 (Array.toList #[.int .u64 zt.g, .int .u64 zt.r, .int .u64 zt.fl, .slice At zt.tk.length ct, .slice Bt zt.kp.length dt])) gq3 29 #[.int .u64 zt.g, .int .u64 zt.r, .int .u64 zt.fl, .slice At zt.tk.length ct, .slice Bt zt.kp.length dt] := kg3.setAll rfl
            have pe4 := pe3.far rfl (Array.toList #[.int .u64 zt.g, .int .u64 zt.r, .int .u64 zt.fl, .slice At zt.tk.length ct, .slice Bt zt.kp.length dt]) 0
            have pz4 := pz3.setCells (.inr (.inr rfl)) (Array.toList #[.int .u64 zt.g, .int .u64 zt.r, .int .u64 zt.fl, .slice At zt.tk.length ct, .slice Bt zt.kp.length dt]) 0
            have hc4 : (fun wy => Below xb w wy ∧ PX NoE wy xb S #[.int .i64 1, .int .u64 rt, .bool true, .int .u64 ro, .int .u64 0, .int .u64 0, .int .u64 0, .slice As' 0 cs', .int .u64 z.g, .int .u64 z.r, .int .u64 z.fl, .slice Ak z.tk.length ck, .slice Bk z.kp.length dk] bs br Vw (sP st su ss) (rP rt true ro z) way ∧ Blk wy g3 51 C ∧ Blk wy g6 81 #[.int .u64 f.a, .int .u64 x.size, .int .i64 x.node, .int .u64 x.seq, .int .i64 x.io]) (xq3.setCells gq3 0 (Array.toList #[.int .u64 zt.g, .int .u64 zt.r, .int .u64 zt.fl, .slice At zt.tk.length ct, .slice Bt zt.kp.length dt])) := ⟨below_setCells hxg3 _ _ hH3.1, pe4.noE, hH3.2.2.1.farAll ne3_0 _ _, hH3.2.2.2.farAll ne3_1 _ _⟩
            generalize xq3.setCells gq3 0 (Array.toList #[.int .u64 zt.g, .int .u64 zt.r, .int .u64 zt.fl, .slice At zt.tk.length ct, .slice Bt zt.kp.length dt]) = xq4 at hc4 kg4 pe4 pz4 ⊢
            refine hK.out _ _ hc4 (fun hH4 => ?_)
            clear hc4
            clear hK KK
            try simp only [zz1, zz2, zz3, Act.put, zz4, zz5, zz6]
            refine tkH 15 rfl (yieldsIf_pure _ (.int .i64 et) rfl (.inr rfl) rfl) hH4 ?_
            try simp only [zz1, zz2, zz3, Act.put, zz4, zz5, zz6]
            refine wpAnyH_done (by kernel_rfl) ?_ _
            have hz := hH4.2.1
            have hBz := hH4.1
            have kfz := hH4.2.2.1
            have pzz := pz4.noE
            have kz := kg4
            clear hH4
            by_cases he : et = 0
            · subst he
              have Tt := HQt.out rfl
              go_wp2_with (first | (refine wpList_ldrow (by rfl) 29 _ (by rfl) gq3 (by rfl) 29 #[.int .u64 zt.g, .int .u64 zt.r, .int .u64 zt.fl, .slice At zt.tk.length ct, .slice Bt zt.kp.length dt] (0, 0) _ kz Try.underlying29 (by rfl) (by kernel_rfl) ?_) | (refine wpList_store_gen (by rfl) 29 _ _ (by rfl) xb 21 #[.int .u64 zt.g, .int .u64 zt.r, .int .u64 zt.fl, .slice At zt.tk.length ct, .slice Bt zt.kp.length dt] (by rfl) (by rfl) (by exact hz.there 21 5 (by decide)) (by kernel_rfl) (by kernel_rfl) ?_; intro Wb hWWb; have q0Wb : Wb.cell? ⟨g3, 0, none⟩ = some (.int .i64 f.kind) := by rw [hWWb.out]; exact ((kfz.farAll NX3.out _ _).cell 0).trans C0))
              have hz' : PX NoE Wb xb S #[.int .i64 1, .int .u64 rt, .bool true, .int .u64 ro, .int .u64 0, .int .u64 0, .int .u64 0, .slice As' 0 cs', .int .u64 zt.g, .int .u64 zt.r, .int .u64 zt.fl, .slice At zt.tk.length ct, .slice Bt zt.kp.length dt] bs br Vw (sP st su ss) (rP rt true ro zt) way := by rw [hWWb.out]; exact hz.partR (o := 8) (l := Array.toList #[.int .u64 zt.g, .int .u64 zt.r, .int .u64 zt.fl, .slice At zt.tk.length ct, .slice Bt zt.kp.length dt]) (Nat.le_refl 13) rfl pzz
              have hBz' : Below xb w Wb := by rw [hWWb.out]; exact below_setCells (Nat.le_refl _) _ _ hBz
              have kfz' : Blk Wb g3 51 C := by rw [hWWb.out]; exact kfz.farAll NX3.out _ _
              go_roundw
              case rel => exact ⟨k + 1, zt, At, ct, Bt, dt, by omega, by go_num, Tt, hz', kfz', hBz'⟩
              case measure => simp [intOf]; omega
            · have e1 : (et == 0) = false := by simpa using he
              go_wp2_with fail
              go_roundw
              case rel => exact ⟨k + 1, z, Ak, ck, Bk, dk, by omega, by go_num, hT, hz, kfz, hBz⟩
              case measure => simp [intOf]; omega
          refine AllReadyH.cons rfl (fun KK hK => ?_) ?_
          · rw [if_pos (by rfl)]
            refine wp_alloc_z 29 (by rfl) _ rfl #[.int .u64 0, .int .u64 0, .int .u64 0, .slice none 0 0, .slice none 0 0] (fun w => by kernel_rfl) ?_
            have kg5 := Blk.new xq1 29 #[.int .u64 0, .int .u64 0, .int .u64 0, .slice none 0 0, .slice none 0 0]
            have pe5 := PX.allocE hH.2.1 (.cells #[.int .u64 0, .int .u64 0, .int .u64 0, .slice none 0 0, .slice none 0 0] 29)
            have hxg5 : xb ≤ xq1.heap.size := Nat.le_of_lt hH.2.1.lt
            have ne5_0 : ¬ g3 = xq1.heap.size := Nat.ne_of_lt hH.2.2.1.lt
            have ne5_1 : ¬ g6 = xq1.heap.size := Nat.ne_of_lt hH.2.2.2.lt
            have hc5 : (fun wy => Below xb w wy ∧ PX NoE wy xb S #[.int .i64 1, .int .u64 rt, .bool true, .int .u64 ro, .int .u64 0, .int .u64 0, .int .u64 0, .slice As' 0 cs', .int .u64 z.g, .int .u64 z.r, .int .u64 z.fl, .slice Ak z.tk.length ck, .slice Bk z.kp.length dk] bs br Vw (sP st su ss) (rP rt true ro z) way ∧ Blk wy g3 51 C ∧ Blk wy g6 81 #[.int .u64 f.a, .int .u64 x.size, .int .i64 x.node, .int .u64 x.seq, .int .i64 x.io]) (xq1.alloc (.cells #[.int .u64 0, .int .u64 0, .int .u64 0, .slice none 0 0, .slice none 0 0] 29)) := ⟨hH.1.alloc (Nat.le_of_lt hH.2.1.lt) _, hH.2.1.alloc _, hH.2.2.1.alloc _, hH.2.2.2.alloc _⟩
            generalize xq1.alloc (.cells #[.int .u64 0, .int .u64 0, .int .u64 0, .slice none 0 0, .slice none 0 0] 29) = xq5 at hc5 kg5 pe5 ⊢
            generalize xq1.heap.size = gq5 at kg5 pe5 hxg5 ne5_0 ne5_1 ⊢
            refine hK.out _ _ hc5 (fun hH5 => ?_)
            clear hc5
            clear hK KK
            try simp only [zz1, zz2, zz3, Act.put, zz4, zz5, zz6]
            refine rdH [9] ?_
            refine c1H rfl fun KK hK => ?_
            go_simp
            refine (TKE.out z hT _ _ _ hH5.2.1.r.rows.2.1 hH5.2.1.r.rows.2.2).mono ?_
            rintro e xq6 ⟨zt, et, ⟨At, ct, Bt, dt, rfl, hr6, hkp6, hb6⟩, hq6⟩
            have kg6 := kg5.below hb6
            have pe6 := pe5.below hb6
            have pz6 := (PrN.rcv pe5.r hb6 (.ofB hr6 (pe5.newX (fun b c => c ▸ kg5.lt))) (.ofB hkp6 (pe5.newX (fun b c => c ▸ kg5.lt))))
            have HQt := Lib.hid hq6
            clear hq6
            refine hK.out _ _ ⟨hH5.1.trans (hb6.mono (Nat.le_of_lt hH5.2.1.lt)), hH5.2.1.below hb6, hH5.2.2.1.below hb6, hH5.2.2.2.below hb6⟩ (fun hH6 => ?_)
            clear hK KK
            try simp only [zz1, zz2, zz3, Act.put, zz4, zz5, zz6]
            refine tkH 10 rfl (yieldsIf_pure _ (.tuple #[.agg #[.int .u64 zt.g, .int .u64 zt.r, .int .u64 zt.fl, .slice At zt.tk.length ct, .slice Bt zt.kp.length dt], .int .i64 et]) rfl (.inl rfl) rfl) hH6 ?_
            try simp only [zz1, zz2, zz3, Act.put, zz4, zz5, zz6]
            refine tkH 11 rfl (yieldsIf_cell (.agg #[.int .u64 zt.g, .int .u64 zt.r, .int .u64 zt.fl, .slice At zt.tk.length ct, .slice Bt zt.kp.length dt]) rfl (fun w h => by go_simp)) hH6 ?_
            try simp only [zz1, zz2, zz3, Act.put, zz4, zz5, zz6]
            refine tkH 12 rfl (yieldsIf_cell (.int .i64 et) rfl (fun w h => by go_simp)) hH6 ?_
            try simp only [zz1, zz2, zz3, Act.put, zz4, zz5, zz6]
            refine rdH [14] ?_
            refine c1H rfl fun KK hK => ?_
            rw [if_pos (by rfl)]
            refine wp_store_mid 29 _ _ rfl gq5 0 #[.int .u64 zt.g, .int .u64 zt.r, .int .u64 zt.fl, .slice At zt.tk.length ct, .slice Bt zt.kp.length dt] rfl rfl (Blk.there kg6 0 _ (Nat.le_refl _)) (by kernel_rfl) (by kernel_rfl) ?_
            have kg7 : Blk (xq6.setCells gq5 0 (Array.toList #[.int .u64 zt.g, .int .u64 zt.r, .int .u64 zt.fl, .slice At zt.tk.length ct, .slice Bt zt.kp.length dt])) gq5 29 #[.int .u64 zt.g, .int .u64 zt.r, .int .u64 zt.fl, .slice At zt.tk.length ct, .slice Bt zt.kp.length dt] := kg6.setAll rfl
            have pe7 := pe6.far rfl (Array.toList #[.int .u64 zt.g, .int .u64 zt.r, .int .u64 zt.fl, .slice At zt.tk.length ct, .slice Bt zt.kp.length dt]) 0
            have pz7 := pz6.setCells (.inr (.inr rfl)) (Array.toList #[.int .u64 zt.g, .int .u64 zt.r, .int .u64 zt.fl, .slice At zt.tk.length ct, .slice Bt zt.kp.length dt]) 0
            have hc7 : (fun wy => Below xb w wy ∧ PX NoE wy xb S #[.int .i64 1, .int .u64 rt, .bool true, .int .u64 ro, .int .u64 0, .int .u64 0, .int .u64 0, .slice As' 0 cs', .int .u64 z.g, .int .u64 z.r, .int .u64 z.fl, .slice Ak z.tk.length ck, .slice Bk z.kp.length dk] bs br Vw (sP st su ss) (rP rt true ro z) way ∧ Blk wy g3 51 C ∧ Blk wy g6 81 #[.int .u64 f.a, .int .u64 x.size, .int .i64 x.node, .int .u64 x.seq, .int .i64 x.io]) (xq6.setCells gq5 0 (Array.toList #[.int .u64 zt.g, .int .u64 zt.r, .int .u64 zt.fl, .slice At zt.tk.length ct, .slice Bt zt.kp.length dt])) := ⟨below_setCells hxg5 _ _ hH6.1, pe7.noE, hH6.2.2.1.farAll ne5_0 _ _, hH6.2.2.2.farAll ne5_1 _ _⟩
            generalize xq6.setCells gq5 0 (Array.toList #[.int .u64 zt.g, .int .u64 zt.r, .int .u64 zt.fl, .slice At zt.tk.length ct, .slice Bt zt.kp.length dt]) = xq7 at hc7 kg7 pe7 pz7 ⊢
            refine hK.out _ _ hc7 (fun hH7 => ?_)
            clear hc7
            clear hK KK
            try simp only [zz1, zz2, zz3, Act.put, zz4, zz5, zz6]
            refine tkH 15 rfl (yieldsIf_pure _ (.int .i64 et) rfl (.inr rfl) rfl) hH7 ?_
            try simp only [zz1, zz2, zz3, Act.put, zz4, zz5, zz6]
            refine wpAnyH_done (by kernel_rfl) ?_ _
            have hz := hH7.2.1
            have hBz := hH7.1
            have kfz := hH7.2.2.1
            have pzz := pz7.noE
            have kz := kg7
            clear hH7
            by_cases he : et = 0
            · subst he
              have Tt := HQt.out rfl
              go_wp2_with (first | (refine wpList_ldrow (by rfl) 29 _ (by rfl) gq5 (by rfl) 29 #[.int .u64 zt.g, .int .u64 zt.r, .int .u64 zt.fl, .slice At zt.tk.length ct, .slice Bt zt.kp.length dt] (0, 0) _ kz Try.underlying29 (by rfl) (by kernel_rfl) ?_) | (refine wpList_store_gen (by rfl) 29 _ _ (by rfl) xb 21 #[.int .u64 zt.g, .int .u64 zt.r, .int .u64 zt.fl, .slice At zt.tk.length ct, .slice Bt zt.kp.length dt] (by rfl) (by rfl) (by exact hz.there 21 5 (by decide)) (by kernel_rfl) (by kernel_rfl) ?_; intro Wb hWWb; have q0Wb : Wb.cell? ⟨g3, 0, none⟩ = some (.int .i64 f.kind) := by rw [hWWb.out]; exact ((kfz.farAll NX3.out _ _).cell 0).trans C0))
              have hz' : PX NoE Wb xb S #[.int .i64 1, .int .u64 rt, .bool true, .int .u64 ro, .int .u64 0, .int .u64 0, .int .u64 0, .slice As' 0 cs', .int .u64 zt.g, .int .u64 zt.r, .int .u64 zt.fl, .slice At zt.tk.length ct, .slice Bt zt.kp.length dt] bs br Vw (sP st su ss) (rP rt true ro zt) way := by rw [hWWb.out]; exact hz.partR (o := 8) (l := Array.toList #[.int .u64 zt.g, .int .u64 zt.r, .int .u64 zt.fl, .slice At zt.tk.length ct, .slice Bt zt.kp.length dt]) (Nat.le_refl 13) rfl pzz
              have hBz' : Below xb w Wb := by rw [hWWb.out]; exact below_setCells (Nat.le_refl _) _ _ hBz
              have kfz' : Blk Wb g3 51 C := by rw [hWWb.out]; exact kfz.farAll NX3.out _ _
              go_roundw
              case rel => exact ⟨k + 1, zt, At, ct, Bt, dt, by omega, by go_num, Tt, hz', kfz', hBz'⟩
              case measure => simp [intOf]; omega
            · have e1 : (et == 0) = false := by simpa using he
              go_wp2_with fail
              go_roundw
              case rel => exact ⟨k + 1, z, Ak, ck, Bk, dk, by omega, by go_num, hT, hz, kfz, hBz⟩
              case measure => simp [intOf]; omega
          exact AllReadyH.nil
        · have e9 : (x.off == f.a) = false := by simpa using hoa
          have hl3 : g3 < wr.heap.size := kf.lt
          clear hoa
          go_wp2_with fail
          go_roundw
          case rel => exact ⟨k + 1, z, Ak, ck, Bk, dk, by omega, by go_num, hT, h.alloc _, kf.alloc _, hB.alloc (Nat.le_of_lt h.lt) _⟩
          case measure => simp [intOf]; omega
      · obtain rfl : k = ss.sl.length := by omega
        have hki : ¬ ((ss.sl.length : Int) < ss.sl.length) := by omega
        have q0 := (kf.cell 0).trans C0
        go_wp2_with (refine wpList_load_mid (by rfl) 29 _ (by rfl) xb 21 (by rfl) [.int .u64 z.g, .int .u64 z.r, .int .u64 z.fl, .slice Ak z.tk.length ck, .slice Bk z.kp.length dk] _ (h.rngRp 8 5 _ rfl (by decide)) Try.underlying29 (by rfl) (by kernel_rfl) ?_)
        refine (floor_ti hT FT.out.1 FT.out.2 _ _ _ h.r.rows.2.1 h.r.rows.2.2).mono ?_
        rintro e vf ⟨zf, nf, erf, ⟨Af, cf, Bf, df, rfl, hr, hkp, hb⟩, hq⟩
        have pz := h.r.rcv hb (.ofB hr (h.newX (noE_lt _))) (.ofB hkp (h.newX (noE_lt _)))
        have HQf := Lib.hid hq
        have hf := h.below hb
        have kff := kf.below hb
        have hBf := hB.trans (hb.mono (Nat.le_of_lt h.lt))
        have hlv : xb ≤ vf.heap.size := Nat.le_of_lt hf.lt
        clear hr hkp hb hq h kf hB
        go_upto_region 14 with (go_big_may; first | (refine wpList_alloc_z (by rfl) 29 (by rfl) _ rfl #[.int .u64 0, .int .u64 0, .int .u64 0, .slice none 0 0, .slice none 0 0] (fun w => by kernel_rfl) ?_) | (refine wpList_store_new (by rfl) 29 _ _ (by rfl) vf #[.int .u64 0, .int .u64 0, .int .u64 0, .slice none 0 0, .slice none 0 0] #[.int .u64 zf.g, .int .u64 zf.r, .int .u64 zf.fl, .slice Af zf.tk.length cf, .slice Bf zf.kp.length df] rfl (by rfl) (by rfl) (by kernel_rfl) rfl (by kernel_rfl) ?_))
        have k9 := Blk.new vf 29 #[.int .u64 zf.g, .int .u64 zf.r, .int .u64 zf.fl, .slice Af zf.tk.length cf, .slice Bf zf.kp.length df]
        replace hf := hf.alloc (.cells #[.int .u64 zf.g, .int .u64 zf.r, .int .u64 zf.fl, .slice Af zf.tk.length cf, .slice Bf zf.kp.length df] 29)
        replace pz := pz.below ((Below.refl _ _).alloc (Nat.le_refl _) (.cells #[.int .u64 zf.g, .int .u64 zf.r, .int .u64 zf.fl, .slice Af zf.tk.length cf, .slice Bf zf.kp.length df] 29))
        replace kff := kff.alloc (.cells #[.int .u64 zf.g, .int .u64 zf.r, .int .u64 zf.fl, .slice Af zf.tk.length cf, .slice Bf zf.kp.length df] 29)
        replace hBf := hBf.alloc hlv (.cells #[.int .u64 zf.g, .int .u64 zf.r, .int .u64 zf.fl, .slice Af zf.tk.length cf, .slice Bf zf.kp.length df] 29)
        generalize vf.alloc (.cells #[.int .u64 zf.g, .int .u64 zf.r, .int .u64 zf.fl, .slice Af zf.tk.length cf, .slice Bf zf.kp.length df] 29) = uf at k9 hf pz kff hBf ⊢
        generalize vf.heap.size = g9 at k9 hlv ⊢
        have q0 := (kff.cell 0).trans C0
        by_cases he : erf = 0
        · subst he
          have Tf := HQf.out rfl
          clear HQf
          go_wp2_with (first | (refine wpList_ldrow (by rfl) 29 _ (by rfl) g9 (by rfl) 29 #[.int .u64 zf.g, .int .u64 zf.r, .int .u64 zf.fl, .slice Af zf.tk.length cf, .slice Bf zf.kp.length df] (0, 0) _ k9 Try.underlying29 (by rfl) (by kernel_rfl) ?_) | (refine wpList_store_gen (by rfl) 29 _ _ (by rfl) xb 21 #[.int .u64 zf.g, .int .u64 zf.r, .int .u64 zf.fl, .slice Af zf.tk.length cf, .slice Bf zf.kp.length df] (by rfl) (by rfl) (by exact hf.there 21 5 (by decide)) (by kernel_rfl) (by kernel_rfl) ?_; intro Wa hWWa; have q0Wa : Wa.cell? ⟨g3, 0, none⟩ = some (.int .i64 f.kind) := by rw [hWWa.out]; exact ((kff.farAll NX3.out _ _).cell 0).trans C0))
          have hf' : PX NoE Wa xb S #[.int .i64 1, .int .u64 rt, .bool true, .int .u64 ro, .int .u64 0, .int .u64 0, .int .u64 0, .slice As' 0 cs', .int .u64 zf.g, .int .u64 zf.r, .int .u64 zf.fl, .slice Af zf.tk.length cf, .slice Bf zf.kp.length df] bs br Vw (sP st su ss) (rP rt true ro zf) way := by rw [hWWa.out]; exact hf.partR (o := 8) (l := Array.toList #[.int .u64 zf.g, .int .u64 zf.r, .int .u64 zf.fl, .slice Af zf.tk.length cf, .slice Bf zf.kp.length df]) (Nat.le_refl 13) rfl pz
          have hBf' : Below xb w Wa := by rw [hWWa.out]; exact below_setCells (Nat.le_refl _) _ _ hBf
          have kff' : Blk Wa g3 51 C := by rw [hWWa.out]; exact kff.farAll NX3.out _ _
          refine bodyPost_ret (v := .tuple #[]) (by simp [results, Try.results87, go_sem]) rfl ?_
          exact ⟨rfl, hBf', zf, _, TF.out zf Tf, hf'⟩
        · have e1 : (erf == 0) = false := by simpa using he
          clear HQf pz
          go_wp2_with fail
          refine bodyPost_ret (v := .tuple #[]) (by simp [results, Try.results87, go_sem]) rfl ?_
          exact ⟨rfl, hBf, z, _, TF.out z hT, hf⟩
  · have e3 : (f.kind == 3) = false := by simpa using k3
    by_cases k4 : f.kind = 4
    · have e4 : (f.kind == 4) = true := by simpa using k4
      have FT : Hid (0 ≤ f.a ∧ (sync → f.a ≤ ss.n)) := Lib.hid ⟨ha0, fun s => ((DB0.out s).2 k4).1⟩
      have DB4 : Hid (sync → f.a ≤ ss.n ∧ f.b ≤ ss.r) := Lib.hid (fun s => (DB0.out s).2 k4)
      have hT := TI0.out
      clear DB0
      go_wp2_with (refine wpList_load_mid (by rfl) 29 _ (by rfl) xb 21 (by rfl) [.int .u64 rr.g, .int .u64 rr.r, .int .u64 rr.fl, .slice A0 rr.tk.length c0, .slice B0 rr.kp.length d0] _ (h.rngRp 8 5 _ rfl (by decide)) Try.underlying29 (by rfl) (by kernel_rfl) ?_)
      refine (floor_ti hT FT.out.1 FT.out.2 _ _ _ h.r.rows.2.1 h.r.rows.2.2).mono ?_
      rintro e vf ⟨zf, nf, erf, ⟨Af, cf, Bf, df, rfl, hr, hkp, hb⟩, hq⟩
      have pz := h.r.rcv hb (.ofB hr (h.newX (noE_lt _))) (.ofB hkp (h.newX (noE_lt _)))
      have HQf := Lib.hid hq
      have hf := h.below hb
      have kff := kf.below hb
      have hBf := hB.trans (hb.mono (Nat.le_of_lt h.lt))
      have hlv : xb ≤ vf.heap.size := Nat.le_of_lt hf.lt
      clear hr hkp hb hq h kf hB
      go_upto_region 14 with (go_big_may; first | (refine wpList_alloc_z (by rfl) 29 (by rfl) _ rfl #[.int .u64 0, .int .u64 0, .int .u64 0, .slice none 0 0, .slice none 0 0] (fun w => by kernel_rfl) ?_) | (refine wpList_store_new (by rfl) 29 _ _ (by rfl) vf #[.int .u64 0, .int .u64 0, .int .u64 0, .slice none 0 0, .slice none 0 0] #[.int .u64 zf.g, .int .u64 zf.r, .int .u64 zf.fl, .slice Af zf.tk.length cf, .slice Bf zf.kp.length df] rfl (by rfl) (by rfl) (by kernel_rfl) rfl (by kernel_rfl) ?_))
      have k9 := Blk.new vf 29 #[.int .u64 zf.g, .int .u64 zf.r, .int .u64 zf.fl, .slice Af zf.tk.length cf, .slice Bf zf.kp.length df]
      replace hf := hf.alloc (.cells #[.int .u64 zf.g, .int .u64 zf.r, .int .u64 zf.fl, .slice Af zf.tk.length cf, .slice Bf zf.kp.length df] 29)
      replace pz := pz.below ((Below.refl _ _).alloc (Nat.le_refl _) (.cells #[.int .u64 zf.g, .int .u64 zf.r, .int .u64 zf.fl, .slice Af zf.tk.length cf, .slice Bf zf.kp.length df] 29))
      replace kff := kff.alloc (.cells #[.int .u64 zf.g, .int .u64 zf.r, .int .u64 zf.fl, .slice Af zf.tk.length cf, .slice Bf zf.kp.length df] 29)
      replace hBf := hBf.alloc hlv (.cells #[.int .u64 zf.g, .int .u64 zf.r, .int .u64 zf.fl, .slice Af zf.tk.length cf, .slice Bf zf.kp.length df] 29)
      generalize vf.alloc (.cells #[.int .u64 zf.g, .int .u64 zf.r, .int .u64 zf.fl, .slice Af zf.tk.length cf, .slice Bf zf.kp.length df] 29) = uf at k9 hf pz kff hBf ⊢
      generalize vf.heap.size = g9 at k9 hlv ⊢
      have q0 := (kff.cell 0).trans C0
      by_cases he : erf = 0
      · subst he
        have Tf := HQf.out rfl
        clear HQf
        go_upto_region 16 with (go_big_may; (first | (refine wpList_ldrow (by rfl) 29 _ (by rfl) g9 (by rfl) 29 #[.int .u64 zf.g, .int .u64 zf.r, .int .u64 zf.fl, .slice Af zf.tk.length cf, .slice Bf zf.kp.length df] (0, 0) _ k9 Try.underlying29 (by rfl) (by kernel_rfl) ?_) | (refine wpList_store_gen (by rfl) 29 _ _ (by rfl) xb 21 #[.int .u64 zf.g, .int .u64 zf.r, .int .u64 zf.fl, .slice Af zf.tk.length cf, .slice Bf zf.kp.length df] (by rfl) (by rfl) (by exact hf.there 21 5 (by decide)) (by kernel_rfl) (by kernel_rfl) ?_; intro Wa hWWa; have q0Wa : Wa.cell? ⟨g3, 0, none⟩ = some (.int .i64 f.kind) := by rw [hWWa.out]; exact ((kff.farAll NX3.out _ _).cell 0).trans C0)))
        have hf' : PX NoE Wa xb S #[.int .i64 1, .int .u64 rt, .bool true, .int .u64 ro, .int .u64 0, .int .u64 0, .int .u64 0, .slice As' 0 cs', .int .u64 zf.g, .int .u64 zf.r, .int .u64 zf.fl, .slice Af zf.tk.length cf, .slice Bf zf.kp.length df] bs br Vw (sP st su ss) (rP rt true ro zf) way := by rw [hWWa.out]; exact hf.partR (o := 8) (l := Array.toList #[.int .u64 zf.g, .int .u64 zf.r, .int .u64 zf.fl, .slice Af zf.tk.length cf, .slice Bf zf.kp.length df]) (Nat.le_refl 13) rfl pz
        have hBf' : Below xb w Wa := by rw [hWWa.out]; exact below_setCells (Nat.le_refl _) _ _ hBf
        have kff' : Blk Wa g3 51 C := by rw [hWWa.out]; exact kff.farAll NX3.out _ _
        clear hf hBf kff k9 q0 hWWa pz
        go_upto_region 17 with fail
        clear q0Wa
        refine wp_region_held_drew (S := fun wy => Below xb w wy ∧ PX NoE wy xb S #[.int .i64 1, .int .u64 rt, .bool true, .int .u64 ro, .int .u64 0, .int .u64 0, .int .u64 0, .slice As' 0 cs', .int .u64 zf.g, .int .u64 zf.r, .int .u64 zf.fl, .slice Af zf.tk.length cf, .slice Bf zf.kp.length df] bs br Vw (sP st su ss) (rP rt true ro zf) way ∧ Blk wy g3 51 C) (by kernel_rfl) ⟨hBf'.drew, hf'.drew, kff'.drew⟩ (fun hH => ?_)
        generalize Wa.drew = xq8 at hH ⊢
        refine tkH 0 rfl (yieldsIf_pure _ (.pointer (some ⟨xb, 0, none⟩)) rfl (.inl rfl) rfl) hH ?_
        try simp only [zz1, zz2, zz3, Act.put, zz4, zz5, zz6]
        refine tkH 1 rfl (yieldsIf_cell (.pointer (some ⟨xb, 0, none⟩)) rfl (fun w h => rfl)) hH ?_
        try simp only [zz1, zz2, zz3, Act.put, zz4, zz5, zz6]
        refine tkH 2 rfl (yieldsIf_cell (.pointer (some ⟨xb, 13, none⟩)) rfl (fun w h => by go_simp)) hH ?_
        try simp only [zz1, zz2, zz3, Act.put, zz4, zz5, zz6]
        refine tkH 3 rfl (yieldsIf_cell (.pointer (some ⟨xb, 21, none⟩)) rfl (fun w h => by go_simp)) hH ?_
        try simp only [zz1, zz2, zz3, Act.put, zz4, zz5, zz6]
        refine tkH 4 rfl (yieldsIf_load_mid rfl 29 _ rfl xb 21 rfl [.int .u64 zf.g, .int .u64 zf.r, .int .u64 zf.fl, .slice Af zf.tk.length cf, .slice Bf zf.kp.length df] _ (fun w h => h.2.1.rngRp 8 5 _ rfl (by decide)) Try.underlying29 rfl (by kernel_rfl)) hH ?_
        try simp only [zz1, zz2, zz3, Act.put, zz4, zz5, zz6]
        refine tkH 5 rfl (yieldsIf_cell (.pointer (some ⟨g3, 6, none⟩)) rfl (fun w h => by go_simp)) hH ?_
        try simp only [zz1, zz2, zz3, Act.put, zz4, zz5, zz6]
        refine tkH 6 rfl (yieldsIf_cell (.int .u64 f.b) rfl (fun wy h => by have j0 := (h.2.2.cell 6).trans C6; go_simp)) hH ?_
        try simp only [zz1, zz2, zz3, Act.put, zz4, zz5, zz6]
        refine rdH [7, 12] ?_
        refine AllReadyH.cons rfl (fun KK hK => ?_) ?_
        · go_simp
          refine (return_ti Tf hfb0 hfb1 (fun s => (DB4.out s).2) _ _ _ hH.2.1.r.rows.2.1 hH.2.1.r.rows.2.2).mono ?_
          rintro e xq9 ⟨zr, nr, er, ⟨Ar, cr, Br, dr, rfl, hr9, hkp9, hb9⟩, hq9⟩
          have pz9 := hH.2.1.r.rcv hb9 (.ofB hr9 (hH.2.1.newX (noE_lt _))) (.ofB hkp9 (hH.2.1.newX (noE_lt _)))
          have HQr := Lib.hid hq9
          clear hq9
          refine hK.out _ _ ⟨hH.1.trans (hb9.mono (Nat.le_of_lt hH.2.1.lt)), hH.2.1.below hb9, hH.2.2.below hb9⟩ (fun hH9 => ?_)
          clear hK KK
          try simp only [zz1, zz2, zz3, Act.put, zz4, zz5, zz6]
          refine tkH 8 rfl (yieldsIf_pure _ (.tuple #[.agg #[.int .u64 zr.g, .int .u64 zr.r, .int .u64 zr.fl, .slice Ar zr.tk.length cr, .slice Br zr.kp.length dr], .int .u64 nr, .int .i64 er]) rfl (.inl rfl) rfl) hH9 ?_
          try simp only [zz1, zz2, zz3, Act.put, zz4, zz5, zz6]
          refine tkH 9 rfl (yieldsIf_cell (.agg #[.int .u64 zr.g, .int .u64 zr.r, .int .u64 zr.fl, .slice Ar zr.tk.length cr, .slice Br zr.kp.length dr]) rfl (fun w h => by go_simp)) hH9 ?_
          try simp only [zz1, zz2, zz3, Act.put, zz4, zz5, zz6]
          refine tkH 10 rfl (yieldsIf_cell (.int .u64 nr) rfl (fun w h => by go_simp)) hH9 ?_
          try simp only [zz1, zz2, zz3, Act.put, zz4, zz5, zz6]
          refine tkH 11 rfl (yieldsIf_cell (.int .i64 er) rfl (fun w h => by go_simp)) hH9 ?_
          try simp only [zz1, zz2, zz3, Act.put, zz4, zz5, zz6]
          refine rdH [12] ?_
          refine c1H rfl fun KK hK => ?_
          rw [if_pos (by rfl)]
          refine wp_alloc_z 29 (by rfl) _ rfl #[.int .u64 0, .int .u64 0, .int .u64 0, .slice none 0 0, .slice none 0 0] (fun w => by kernel_rfl) ?_
          have kg10 := Blk.new xq9 29 #[.int .u64 0, .int .u64 0, .int .u64 0, .slice none 0 0, .slice none 0 0]
          have pe10 := PX.allocE hH9.2.1 (.cells #[.int .u64 0, .int .u64 0, .int .u64 0, .slice none 0 0, .slice none 0 0] 29)
          have pz10 := PrN.allocE pz9 (.cells #[.int .u64 0, .int .u64 0, .int .u64 0, .slice none 0 0, .slice none 0 0] 29)
          have hxg10 : xb ≤ xq9.heap.size := Nat.le_of_lt hH9.2.1.lt
          have ne10_0 : ¬ g3 = xq9.heap.size := Nat.ne_of_lt hH9.2.2.lt
          have hc10 : (fun wy => Below xb w wy ∧ PX NoE wy xb S #[.int .i64 1, .int .u64 rt, .bool true, .int .u64 ro, .int .u64 0, .int .u64 0, .int .u64 0, .slice As' 0 cs', .int .u64 zf.g, .int .u64 zf.r, .int .u64 zf.fl, .slice Af zf.tk.length cf, .slice Bf zf.kp.length df] bs br Vw (sP st su ss) (rP rt true ro zf) way ∧ Blk wy g3 51 C) (xq9.alloc (.cells #[.int .u64 0, .int .u64 0, .int .u64 0, .slice none 0 0, .slice none 0 0] 29)) := ⟨hH9.1.alloc (Nat.le_of_lt hH9.2.1.lt) _, hH9.2.1.alloc _, hH9.2.2.alloc _⟩
          generalize xq9.alloc (.cells #[.int .u64 0, .int .u64 0, .int .u64 0, .slice none 0 0, .slice none 0 0] 29) = xq10 at hc10 kg10 pe10 pz10 ⊢
          generalize xq9.heap.size = gq10 at kg10 pe10 pz10 hxg10 ne10_0 ⊢
          refine hK.out _ _ hc10 (fun hH10 => ?_)
          clear hc10
          clear hK KK
          try simp only [zz1, zz2, zz3, Act.put, zz4, zz5, zz6]
          refine rdH [13] ?_
          refine c1H rfl fun KK hK => ?_
          rw [if_pos (by rfl)]
          refine wp_store_mid 29 _ _ rfl gq10 0 #[.int .u64 zr.g, .int .u64 zr.r, .int .u64 zr.fl, .slice Ar zr.tk.length cr, .slice Br zr.kp.length dr] rfl rfl (Blk.there kg10 0 _ (Nat.le_refl _)) (by kernel_rfl) (by kernel_rfl) ?_
          have kg11 : Blk (xq10.setCells gq10 0 (Array.toList #[.int .u64 zr.g, .int .u64 zr.r, .int .u64 zr.fl, .slice Ar zr.tk.length cr, .slice Br zr.kp.length dr])) gq10 29 #[.int .u64 zr.g, .int .u64 zr.r, .int .u64 zr.fl, .slice Ar zr.tk.length cr, .slice Br zr.kp.length dr] := kg10.setAll rfl
          have pe11 := pe10.far rfl (Array.toList #[.int .u64 zr.g, .int .u64 zr.r, .int .u64 zr.fl, .slice Ar zr.tk.length cr, .slice Br zr.kp.length dr]) 0
          have pz11 := pz10.setCells (.inr (.inr rfl)) (Array.toList #[.int .u64 zr.g, .int .u64 zr.r, .int .u64 zr.fl, .slice Ar zr.tk.length cr, .slice Br zr.kp.length dr]) 0
          have hc11 : (fun wy => Below xb w wy ∧ PX NoE wy xb S #[.int .i64 1, .int .u64 rt, .bool true, .int .u64 ro, .int .u64 0, .int .u64 0, .int .u64 0, .slice As' 0 cs', .int .u64 zf.g, .int .u64 zf.r, .int .u64 zf.fl, .slice Af zf.tk.length cf, .slice Bf zf.kp.length df] bs br Vw (sP st su ss) (rP rt true ro zf) way ∧ Blk wy g3 51 C) (xq10.setCells gq10 0 (Array.toList #[.int .u64 zr.g, .int .u64 zr.r, .int .u64 zr.fl, .slice Ar zr.tk.length cr, .slice Br zr.kp.length dr])) := ⟨below_setCells hxg10 _ _ hH10.1, pe11.noE, hH10.2.2.farAll ne10_0 _ _⟩
          generalize xq10.setCells gq10 0 (Array.toList #[.int .u64 zr.g, .int .u64 zr.r, .int .u64 zr.fl, .slice Ar zr.tk.length cr, .slice Br zr.kp.length dr]) = xq11 at hc11 kg11 pe11 pz11 ⊢
          refine hK.out _ _ hc11 (fun hH11 => ?_)
          clear hc11
          clear hK KK
          try simp only [zz1, zz2, zz3, Act.put, zz4, zz5, zz6]
          refine tkH 14 rfl (yieldsIf_pure _ (.int .u64 nr) rfl (.inr rfl) rfl) hH11 ?_
          try simp only [zz1, zz2, zz3, Act.put, zz4, zz5, zz6]
          refine tkH 15 rfl (yieldsIf_pure _ (.int .i64 er) rfl (.inr rfl) rfl) hH11 ?_
          try simp only [zz1, zz2, zz3, Act.put, zz4, zz5, zz6]
          refine wpAnyH_done (by kernel_rfl) ?_ _
          have hz := hH11.2.1
          have hBz := hH11.1
          have kfz := hH11.2.2
          have pzz := pz11.noE
          have kz := kg11
          clear hH11
          by_cases he : er = 0
          · subst he
            have Tr := HQr.out rfl
            go_wp2_with (first | (refine wpList_ldrow (by rfl) 29 _ (by rfl) gq10 (by rfl) 29 #[.int .u64 zr.g, .int .u64 zr.r, .int .u64 zr.fl, .slice Ar zr.tk.length cr, .slice Br zr.kp.length dr] (0, 0) _ kz Try.underlying29 (by rfl) (by kernel_rfl) ?_) | (refine wpList_store_gen (by rfl) 29 _ _ (by rfl) xb 21 #[.int .u64 zr.g, .int .u64 zr.r, .int .u64 zr.fl, .slice Ar zr.tk.length cr, .slice Br zr.kp.length dr] (by rfl) (by rfl) (by exact hz.there 21 5 (by decide)) (by kernel_rfl) (by kernel_rfl) ?_; intro Wb hWWb; have q0Wb : Wb.cell? ⟨g3, 0, none⟩ = some (.int .i64 f.kind) := by rw [hWWb.out]; exact ((kfz.farAll NX3.out _ _).cell 0).trans C0))
            have hz' : PX NoE Wb xb S #[.int .i64 1, .int .u64 rt, .bool true, .int .u64 ro, .int .u64 0, .int .u64 0, .int .u64 0, .slice As' 0 cs', .int .u64 zr.g, .int .u64 zr.r, .int .u64 zr.fl, .slice Ar zr.tk.length cr, .slice Br zr.kp.length dr] bs br Vw (sP st su ss) (rP rt true ro zr) way := by rw [hWWb.out]; exact hz.partR (o := 8) (l := Array.toList #[.int .u64 zr.g, .int .u64 zr.r, .int .u64 zr.fl, .slice Ar zr.tk.length cr, .slice Br zr.kp.length dr]) (Nat.le_refl 13) rfl pzz
            have hBz' : Below xb w Wb := by rw [hWWb.out]; exact below_setCells (Nat.le_refl _) _ _ hBz
            have kfz' : Blk Wb g3 51 C := by rw [hWWb.out]; exact kfz.farAll NX3.out _ _
            refine bodyPost_ret (v := .tuple #[]) (by simp [results, Try.results87, go_sem]) rfl ?_
            exact ⟨rfl, hBz', zr, _, TF.out zr Tr, hz'⟩
          · have e1 : (er == 0) = false := by simpa using he
            go_wp2_with fail
            refine bodyPost_ret (v := .tuple #[]) (by simp [results, Try.results87, go_sem]) rfl ?_
            exact ⟨rfl, hBz, zf, _, TF.out zf Tf, hz⟩
        refine AllReadyH.cons rfl (fun KK hK => ?_) ?_
        · rw [if_pos (by rfl)]
          refine wp_alloc_z 29 (by rfl) _ rfl #[.int .u64 0, .int .u64 0, .int .u64 0, .slice none 0 0, .slice none 0 0] (fun w => by kernel_rfl) ?_
          have kg12 := Blk.new xq8 29 #[.int .u64 0, .int .u64 0, .int .u64 0, .slice none 0 0, .slice none 0 0]
          have pe12 := PX.allocE hH.2.1 (.cells #[.int .u64 0, .int .u64 0, .int .u64 0, .slice none 0 0, .slice none 0 0] 29)
          have hxg12 : xb ≤ xq8.heap.size := Nat.le_of_lt hH.2.1.lt
          have ne12_0 : ¬ g3 = xq8.heap.size := Nat.ne_of_lt hH.2.2.lt
          have hc12 : (fun wy => Below xb w wy ∧ PX NoE wy xb S #[.int .i64 1, .int .u64 rt, .bool true, .int .u64 ro, .int .u64 0, .int .u64 0, .int .u64 0, .slice As' 0 cs', .int .u64 zf.g, .int .u64 zf.r, .int .u64 zf.fl, .slice Af zf.tk.length cf, .slice Bf zf.kp.length df] bs br Vw (sP st su ss) (rP rt true ro zf) way ∧ Blk wy g3 51 C) (xq8.alloc (.cells #[.int .u64 0, .int .u64 0, .int .u64 0, .slice none 0 0, .slice none 0 0] 29)) := ⟨hH.1.alloc (Nat.le_of_lt hH.2.1.lt) _, hH.2.1.alloc _, hH.2.2.alloc _⟩
          generalize xq8.alloc (.cells #[.int .u64 0, .int .u64 0, .int .u64 0, .slice none 0 0, .slice none 0 0] 29) = xq12 at hc12 kg12 pe12 ⊢
          generalize xq8.heap.size = gq12 at kg12 pe12 hxg12 ne12_0 ⊢
          refine hK.out _ _ hc12 (fun hH12 => ?_)
          clear hc12
          clear hK KK
          try simp only [zz1, zz2, zz3, Act.put, zz4, zz5, zz6]
          refine rdH [7] ?_
          refine c1H rfl fun KK hK => ?_
          go_simp
          refine (return_ti Tf hfb0 hfb1 (fun s => (DB4.out s).2) _ _ _ hH12.2.1.r.rows.2.1 hH12.2.1.r.rows.2.2).mono ?_
          rintro e xq13 ⟨zr, nr, er, ⟨Ar, cr, Br, dr, rfl, hr13, hkp13, hb13⟩, hq13⟩
          have kg13 := kg12.below hb13
          have pe13 := pe12.below hb13
          have pz13 := (PrN.rcv (X := Xp xb Vw (fun g => g = gq12)) pe12.r hb13 (.ofB hr13 (pe12.newX (fun b c => c ▸ kg12.lt))) (.ofB hkp13 (pe12.newX (fun b c => c ▸ kg12.lt))))
          have HQr := Lib.hid hq13
          clear hq13
          refine hK.out _ _ ⟨hH12.1.trans (hb13.mono (Nat.le_of_lt hH12.2.1.lt)), hH12.2.1.below hb13, hH12.2.2.below hb13⟩ (fun hH13 => ?_)
          clear hK KK
          try simp only [zz1, zz2, zz3, Act.put, zz4, zz5, zz6]
          refine tkH 8 rfl (yieldsIf_pure _ (.tuple #[.agg #[.int .u64 zr.g, .int .u64 zr.r, .int .u64 zr.fl, .slice Ar zr.tk.length cr, .slice Br zr.kp.length dr], .int .u64 nr, .int .i64 er]) rfl (.inl rfl) rfl) hH13 ?_
          try simp only [zz1, zz2, zz3, Act.put, zz4, zz5, zz6]
          refine tkH 9 rfl (yieldsIf_cell (.agg #[.int .u64 zr.g, .int .u64 zr.r, .int .u64 zr.fl, .slice Ar zr.tk.length cr, .slice Br zr.kp.length dr]) rfl (fun w h => by go_simp)) hH13 ?_
          try simp only [zz1, zz2, zz3, Act.put, zz4, zz5, zz6]
          refine tkH 10 rfl (yieldsIf_cell (.int .u64 nr) rfl (fun w h => by go_simp)) hH13 ?_
          try simp only [zz1, zz2, zz3, Act.put, zz4, zz5, zz6]
          refine tkH 11 rfl (yieldsIf_cell (.int .i64 er) rfl (fun w h => by go_simp)) hH13 ?_
          try simp only [zz1, zz2, zz3, Act.put, zz4, zz5, zz6]
          refine rdH [13] ?_
          refine c1H rfl fun KK hK => ?_
          rw [if_pos (by rfl)]
          refine wp_store_mid 29 _ _ rfl gq12 0 #[.int .u64 zr.g, .int .u64 zr.r, .int .u64 zr.fl, .slice Ar zr.tk.length cr, .slice Br zr.kp.length dr] rfl rfl (Blk.there kg13 0 _ (Nat.le_refl _)) (by kernel_rfl) (by kernel_rfl) ?_
          have kg14 : Blk (xq13.setCells gq12 0 (Array.toList #[.int .u64 zr.g, .int .u64 zr.r, .int .u64 zr.fl, .slice Ar zr.tk.length cr, .slice Br zr.kp.length dr])) gq12 29 #[.int .u64 zr.g, .int .u64 zr.r, .int .u64 zr.fl, .slice Ar zr.tk.length cr, .slice Br zr.kp.length dr] := kg13.setAll rfl
          have pe14 := pe13.far rfl (Array.toList #[.int .u64 zr.g, .int .u64 zr.r, .int .u64 zr.fl, .slice Ar zr.tk.length cr, .slice Br zr.kp.length dr]) 0
          have pz14 := pz13.setCells (.inr (.inr rfl)) (Array.toList #[.int .u64 zr.g, .int .u64 zr.r, .int .u64 zr.fl, .slice Ar zr.tk.length cr, .slice Br zr.kp.length dr]) 0
          have hc14 : (fun wy => Below xb w wy ∧ PX NoE wy xb S #[.int .i64 1, .int .u64 rt, .bool true, .int .u64 ro, .int .u64 0, .int .u64 0, .int .u64 0, .slice As' 0 cs', .int .u64 zf.g, .int .u64 zf.r, .int .u64 zf.fl, .slice Af zf.tk.length cf, .slice Bf zf.kp.length df] bs br Vw (sP st su ss) (rP rt true ro zf) way ∧ Blk wy g3 51 C) (xq13.setCells gq12 0 (Array.toList #[.int .u64 zr.g, .int .u64 zr.r, .int .u64 zr.fl, .slice Ar zr.tk.length cr, .slice Br zr.kp.length dr])) := ⟨below_setCells hxg12 _ _ hH13.1, pe14.noE, hH13.2.2.farAll ne12_0 _ _⟩
          generalize xq13.setCells gq12 0 (Array.toList #[.int .u64 zr.g, .int .u64 zr.r, .int .u64 zr.fl, .slice Ar zr.tk.length cr, .slice Br zr.kp.length dr]) = xq14 at hc14 kg14 pe14 pz14 ⊢
          refine hK.out _ _ hc14 (fun hH14 => ?_)
          clear hc14
          clear hK KK
          try simp only [zz1, zz2, zz3, Act.put, zz4, zz5, zz6]
          refine tkH 14 rfl (yieldsIf_pure _ (.int .u64 nr) rfl (.inr rfl) rfl) hH14 ?_
          try simp only [zz1, zz2, zz3, Act.put, zz4, zz5, zz6]
          refine tkH 15 rfl (yieldsIf_pure _ (.int .i64 er) rfl (.inr rfl) rfl) hH14 ?_
          try simp only [zz1, zz2, zz3, Act.put, zz4, zz5, zz6]
          refine wpAnyH_done (by kernel_rfl) ?_ _
          have hz := hH14.2.1
          have hBz := hH14.1
          have kfz := hH14.2.2
          have pzz := pz14.noE
          have kz := kg14
          clear hH14
          by_cases he : er = 0
          · subst he
            have Tr := HQr.out rfl
            go_wp2_with (first | (refine wpList_ldrow (by rfl) 29 _ (by rfl) gq12 (by rfl) 29 #[.int .u64 zr.g, .int .u64 zr.r, .int .u64 zr.fl, .slice Ar zr.tk.length cr, .slice Br zr.kp.length dr] (0, 0) _ kz Try.underlying29 (by rfl) (by kernel_rfl) ?_) | (refine wpList_store_gen (by rfl) 29 _ _ (by rfl) xb 21 #[.int .u64 zr.g, .int .u64 zr.r, .int .u64 zr.fl, .slice Ar zr.tk.length cr, .slice Br zr.kp.length dr] (by rfl) (by rfl) (by exact hz.there 21 5 (by decide)) (by kernel_rfl) (by kernel_rfl) ?_; intro Wb hWWb; have q0Wb : Wb.cell? ⟨g3, 0, none⟩ = some (.int .i64 f.kind) := by rw [hWWb.out]; exact ((kfz.farAll NX3.out _ _).cell 0).trans C0))
            have hz' : PX NoE Wb xb S #[.int .i64 1, .int .u64 rt, .bool true, .int .u64 ro, .int .u64 0, .int .u64 0, .int .u64 0, .slice As' 0 cs', .int .u64 zr.g, .int .u64 zr.r, .int .u64 zr.fl, .slice Ar zr.tk.length cr, .slice Br zr.kp.length dr] bs br Vw (sP st su ss) (rP rt true ro zr) way := by rw [hWWb.out]; exact hz.partR (o := 8) (l := Array.toList #[.int .u64 zr.g, .int .u64 zr.r, .int .u64 zr.fl, .slice Ar zr.tk.length cr, .slice Br zr.kp.length dr]) (Nat.le_refl 13) rfl pzz
            have hBz' : Below xb w Wb := by rw [hWWb.out]; exact below_setCells (Nat.le_refl _) _ _ hBz
            have kfz' : Blk Wb g3 51 C := by rw [hWWb.out]; exact kfz.farAll NX3.out _ _
            refine bodyPost_ret (v := .tuple #[]) (by simp [results, Try.results87, go_sem]) rfl ?_
            exact ⟨rfl, hBz', zr, _, TF.out zr Tr, hz'⟩
          · have e1 : (er == 0) = false := by simpa using he
            go_wp2_with fail
            refine bodyPost_ret (v := .tuple #[]) (by simp [results, Try.results87, go_sem]) rfl ?_
            exact ⟨rfl, hBz, zf, _, TF.out zf Tf, hz⟩
        exact AllReadyH.nil
      · have e1 : (erf == 0) = false := by simpa using he
        clear HQf pz
        clear k9
        go_upto_region 17 with fail
        clear q0
        refine wp_region_held_drew (S := fun wy => Below xb w wy ∧ PX NoE wy xb S #[.int .i64 1, .int .u64 rt, .bool true, .int .u64 ro, .int .u64 0, .int .u64 0, .int .u64 0, .slice As' 0 cs', .int .u64 rr.g, .int .u64 rr.r, .int .u64 rr.fl, .slice A0 rr.tk.length c0, .slice B0 rr.kp.length d0] bs br Vw (sP st su ss) (rP rt true ro rr) way ∧ Blk wy g3 51 C) (by kernel_rfl) ⟨hBf.drew, hf.drew, kff.drew⟩ (fun hH => ?_)
        generalize uf.drew = xq15 at hH ⊢
        refine tkH 0 rfl (yieldsIf_pure _ (.pointer (some ⟨xb, 0, none⟩)) rfl (.inl rfl) rfl) hH ?_
        try simp only [zz1, zz2, zz3, Act.put, zz4, zz5, zz6]
        refine tkH 1 rfl (yieldsIf_cell (.pointer (some ⟨xb, 0, none⟩)) rfl (fun w h => rfl)) hH ?_
        try simp only [zz1, zz2, zz3, Act.put, zz4, zz5, zz6]
        refine tkH 2 rfl (yieldsIf_cell (.pointer (some ⟨xb, 13, none⟩)) rfl (fun w h => by go_simp)) hH ?_
        try simp only [zz1, zz2, zz3, Act.put, zz4, zz5, zz6]
        refine tkH 3 rfl (yieldsIf_cell (.pointer (some ⟨xb, 21, none⟩)) rfl (fun w h => by go_simp)) hH ?_
        try simp only [zz1, zz2, zz3, Act.put, zz4, zz5, zz6]
        refine tkH 4 rfl (yieldsIf_load_mid rfl 29 _ rfl xb 21 rfl [.int .u64 rr.g, .int .u64 rr.r, .int .u64 rr.fl, .slice A0 rr.tk.length c0, .slice B0 rr.kp.length d0] _ (fun w h => h.2.1.rngRp 8 5 _ rfl (by decide)) Try.underlying29 rfl (by kernel_rfl)) hH ?_
        try simp only [zz1, zz2, zz3, Act.put, zz4, zz5, zz6]
        refine tkH 5 rfl (yieldsIf_cell (.pointer (some ⟨g3, 6, none⟩)) rfl (fun w h => by go_simp)) hH ?_
        try simp only [zz1, zz2, zz3, Act.put, zz4, zz5, zz6]
        refine tkH 6 rfl (yieldsIf_cell (.int .u64 f.b) rfl (fun wy h => by have j0 := (h.2.2.cell 6).trans C6; go_simp)) hH ?_
        try simp only [zz1, zz2, zz3, Act.put, zz4, zz5, zz6]
        refine rdH [7, 12] ?_
        refine AllReadyH.cons rfl (fun KK hK => ?_) ?_
        · go_simp
          refine (return_ti hT hfb0 hfb1 (fun s => (DB4.out s).2) _ _ _ hH.2.1.r.rows.2.1 hH.2.1.r.rows.2.2).mono ?_
          rintro e xq16 ⟨zr, nr, er, ⟨Ar, cr, Br, dr, rfl, hr16, hkp16, hb16⟩, hq16⟩
          have pz16 := hH.2.1.r.rcv hb16 (.ofB hr16 (hH.2.1.newX (noE_lt _))) (.ofB hkp16 (hH.2.1.newX (noE_lt _)))
          have HQr := Lib.hid hq16
          clear hq16
          refine hK.out _ _ ⟨hH.1.trans (hb16.mono (Nat.le_of_lt hH.2.1.lt)), hH.2.1.below hb16, hH.2.2.below hb16⟩ (fun hH16 => ?_)
          clear hK KK
          try simp only [zz1, zz2, zz3, Act.put, zz4, zz5, zz6]
          refine tkH 8 rfl (yieldsIf_pure _ (.tuple #[.agg #[.int .u64 zr.g, .int .u64 zr.r, .int .u64 zr.fl, .slice Ar zr.tk.length cr, .slice Br zr.kp.length dr], .int .u64 nr, .int .i64 er]) rfl (.inl rfl) rfl) hH16 ?_
          try simp only [zz1, zz2, zz3, Act.put, zz4, zz5, zz6]
          refine tkH 9 rfl (yieldsIf_cell (.agg #[.int .u64 zr.g, .int .u64 zr.r, .int .u64 zr.fl, .slice Ar zr.tk.length cr, .slice Br zr.kp.length dr]) rfl (fun w h => by go_simp)) hH16 ?_
          try simp only [zz1, zz2, zz3, Act.put, zz4, zz5, zz6]
          refine tkH 10 rfl (yieldsIf_cell (.int .u64 nr) rfl (fun w h => by go_simp)) hH16 ?_
          try simp only [zz1, zz2, zz3, Act.put, zz4, zz5, zz6]
          refine tkH 11 rfl (yieldsIf_cell (.int .i64 er) rfl (fun w h => by go_simp)) hH16 ?_
          try simp only [zz1, zz2, zz3, Act.put, zz4, zz5, zz6]
          refine rdH [12] ?_
          refine c1H rfl fun KK hK => ?_
          rw [if_pos (by rfl)]
          refine wp_alloc_z 29 (by rfl) _ rfl #[.int .u64 0, .int .u64 0, .int .u64 0, .slice none 0 0, .slice none 0 0] (fun w => by kernel_rfl) ?_
          have kg17 := Blk.new xq16 29 #[.int .u64 0, .int .u64 0, .int .u64 0, .slice none 0 0, .slice none 0 0]
          have pe17 := PX.allocE hH16.2.1 (.cells #[.int .u64 0, .int .u64 0, .int .u64 0, .slice none 0 0, .slice none 0 0] 29)
          have pz17 := PrN.allocE pz16 (.cells #[.int .u64 0, .int .u64 0, .int .u64 0, .slice none 0 0, .slice none 0 0] 29)
          have hxg17 : xb ≤ xq16.heap.size := Nat.le_of_lt hH16.2.1.lt
          have ne17_0 : ¬ g3 = xq16.heap.size := Nat.ne_of_lt hH16.2.2.lt
          have hc17 : (fun wy => Below xb w wy ∧ PX NoE wy xb S #[.int .i64 1, .int .u64 rt, .bool true, .int .u64 ro, .int .u64 0, .int .u64 0, .int .u64 0, .slice As' 0 cs', .int .u64 rr.g, .int .u64 rr.r, .int .u64 rr.fl, .slice A0 rr.tk.length c0, .slice B0 rr.kp.length d0] bs br Vw (sP st su ss) (rP rt true ro rr) way ∧ Blk wy g3 51 C) (xq16.alloc (.cells #[.int .u64 0, .int .u64 0, .int .u64 0, .slice none 0 0, .slice none 0 0] 29)) := ⟨hH16.1.alloc (Nat.le_of_lt hH16.2.1.lt) _, hH16.2.1.alloc _, hH16.2.2.alloc _⟩
          generalize xq16.alloc (.cells #[.int .u64 0, .int .u64 0, .int .u64 0, .slice none 0 0, .slice none 0 0] 29) = xq17 at hc17 kg17 pe17 pz17 ⊢
          generalize xq16.heap.size = gq17 at kg17 pe17 pz17 hxg17 ne17_0 ⊢
          refine hK.out _ _ hc17 (fun hH17 => ?_)
          clear hc17
          clear hK KK
          try simp only [zz1, zz2, zz3, Act.put, zz4, zz5, zz6]
          refine rdH [13] ?_
          refine c1H rfl fun KK hK => ?_
          rw [if_pos (by rfl)]
          refine wp_store_mid 29 _ _ rfl gq17 0 #[.int .u64 zr.g, .int .u64 zr.r, .int .u64 zr.fl, .slice Ar zr.tk.length cr, .slice Br zr.kp.length dr] rfl rfl (Blk.there kg17 0 _ (Nat.le_refl _)) (by kernel_rfl) (by kernel_rfl) ?_
          have kg18 : Blk (xq17.setCells gq17 0 (Array.toList #[.int .u64 zr.g, .int .u64 zr.r, .int .u64 zr.fl, .slice Ar zr.tk.length cr, .slice Br zr.kp.length dr])) gq17 29 #[.int .u64 zr.g, .int .u64 zr.r, .int .u64 zr.fl, .slice Ar zr.tk.length cr, .slice Br zr.kp.length dr] := kg17.setAll rfl
          have pe18 := pe17.far rfl (Array.toList #[.int .u64 zr.g, .int .u64 zr.r, .int .u64 zr.fl, .slice Ar zr.tk.length cr, .slice Br zr.kp.length dr]) 0
          have pz18 := pz17.setCells (.inr (.inr rfl)) (Array.toList #[.int .u64 zr.g, .int .u64 zr.r, .int .u64 zr.fl, .slice Ar zr.tk.length cr, .slice Br zr.kp.length dr]) 0
          have hc18 : (fun wy => Below xb w wy ∧ PX NoE wy xb S #[.int .i64 1, .int .u64 rt, .bool true, .int .u64 ro, .int .u64 0, .int .u64 0, .int .u64 0, .slice As' 0 cs', .int .u64 rr.g, .int .u64 rr.r, .int .u64 rr.fl, .slice A0 rr.tk.length c0, .slice B0 rr.kp.length d0] bs br Vw (sP st su ss) (rP rt true ro rr) way ∧ Blk wy g3 51 C) (xq17.setCells gq17 0 (Array.toList #[.int .u64 zr.g, .int .u64 zr.r, .int .u64 zr.fl, .slice Ar zr.tk.length cr, .slice Br zr.kp.length dr])) := ⟨below_setCells hxg17 _ _ hH17.1, pe18.noE, hH17.2.2.farAll ne17_0 _ _⟩
          generalize xq17.setCells gq17 0 (Array.toList #[.int .u64 zr.g, .int .u64 zr.r, .int .u64 zr.fl, .slice Ar zr.tk.length cr, .slice Br zr.kp.length dr]) = xq18 at hc18 kg18 pe18 pz18 ⊢
          refine hK.out _ _ hc18 (fun hH18 => ?_)
          clear hc18
          clear hK KK
          try simp only [zz1, zz2, zz3, Act.put, zz4, zz5, zz6]
          refine tkH 14 rfl (yieldsIf_pure _ (.int .u64 nr) rfl (.inr rfl) rfl) hH18 ?_
          try simp only [zz1, zz2, zz3, Act.put, zz4, zz5, zz6]
          refine tkH 15 rfl (yieldsIf_pure _ (.int .i64 er) rfl (.inr rfl) rfl) hH18 ?_
          try simp only [zz1, zz2, zz3, Act.put, zz4, zz5, zz6]
          refine wpAnyH_done (by kernel_rfl) ?_ _
          have hz := hH18.2.1
          have hBz := hH18.1
          have kfz := hH18.2.2
          have pzz := pz18.noE
          have kz := kg18
          clear hH18
          by_cases he : er = 0
          · subst he
            have Tr := HQr.out rfl
            go_wp2_with (first | (refine wpList_ldrow (by rfl) 29 _ (by rfl) gq17 (by rfl) 29 #[.int .u64 zr.g, .int .u64 zr.r, .int .u64 zr.fl, .slice Ar zr.tk.length cr, .slice Br zr.kp.length dr] (0, 0) _ kz Try.underlying29 (by rfl) (by kernel_rfl) ?_) | (refine wpList_store_gen (by rfl) 29 _ _ (by rfl) xb 21 #[.int .u64 zr.g, .int .u64 zr.r, .int .u64 zr.fl, .slice Ar zr.tk.length cr, .slice Br zr.kp.length dr] (by rfl) (by rfl) (by exact hz.there 21 5 (by decide)) (by kernel_rfl) (by kernel_rfl) ?_; intro Wb hWWb; have q0Wb : Wb.cell? ⟨g3, 0, none⟩ = some (.int .i64 f.kind) := by rw [hWWb.out]; exact ((kfz.farAll NX3.out _ _).cell 0).trans C0))
            have hz' : PX NoE Wb xb S #[.int .i64 1, .int .u64 rt, .bool true, .int .u64 ro, .int .u64 0, .int .u64 0, .int .u64 0, .slice As' 0 cs', .int .u64 zr.g, .int .u64 zr.r, .int .u64 zr.fl, .slice Ar zr.tk.length cr, .slice Br zr.kp.length dr] bs br Vw (sP st su ss) (rP rt true ro zr) way := by rw [hWWb.out]; exact hz.partR (o := 8) (l := Array.toList #[.int .u64 zr.g, .int .u64 zr.r, .int .u64 zr.fl, .slice Ar zr.tk.length cr, .slice Br zr.kp.length dr]) (Nat.le_refl 13) rfl pzz
            have hBz' : Below xb w Wb := by rw [hWWb.out]; exact below_setCells (Nat.le_refl _) _ _ hBz
            have kfz' : Blk Wb g3 51 C := by rw [hWWb.out]; exact kfz.farAll NX3.out _ _
            refine bodyPost_ret (v := .tuple #[]) (by simp [results, Try.results87, go_sem]) rfl ?_
            exact ⟨rfl, hBz', zr, _, TF.out zr Tr, hz'⟩
          · have e1 : (er == 0) = false := by simpa using he
            go_wp2_with fail
            refine bodyPost_ret (v := .tuple #[]) (by simp [results, Try.results87, go_sem]) rfl ?_
            exact ⟨rfl, hBz, rr, _, TF.out rr hT, hz⟩
        refine AllReadyH.cons rfl (fun KK hK => ?_) ?_
        · rw [if_pos (by rfl)]
          refine wp_alloc_z 29 (by rfl) _ rfl #[.int .u64 0, .int .u64 0, .int .u64 0, .slice none 0 0, .slice none 0 0] (fun w => by kernel_rfl) ?_
          have kg19 := Blk.new xq15 29 #[.int .u64 0, .int .u64 0, .int .u64 0, .slice none 0 0, .slice none 0 0]
          have pe19 := PX.allocE hH.2.1 (.cells #[.int .u64 0, .int .u64 0, .int .u64 0, .slice none 0 0, .slice none 0 0] 29)
          have hxg19 : xb ≤ xq15.heap.size := Nat.le_of_lt hH.2.1.lt
          have ne19_0 : ¬ g3 = xq15.heap.size := Nat.ne_of_lt hH.2.2.lt
          have hc19 : (fun wy => Below xb w wy ∧ PX NoE wy xb S #[.int .i64 1, .int .u64 rt, .bool true, .int .u64 ro, .int .u64 0, .int .u64 0, .int .u64 0, .slice As' 0 cs', .int .u64 rr.g, .int .u64 rr.r, .int .u64 rr.fl, .slice A0 rr.tk.length c0, .slice B0 rr.kp.length d0] bs br Vw (sP st su ss) (rP rt true ro rr) way ∧ Blk wy g3 51 C) (xq15.alloc (.cells #[.int .u64 0, .int .u64 0, .int .u64 0, .slice none 0 0, .slice none 0 0] 29)) := ⟨hH.1.alloc (Nat.le_of_lt hH.2.1.lt) _, hH.2.1.alloc _, hH.2.2.alloc _⟩
          generalize xq15.alloc (.cells #[.int .u64 0, .int .u64 0, .int .u64 0, .slice none 0 0, .slice none 0 0] 29) = xq19 at hc19 kg19 pe19 ⊢
          generalize xq15.heap.size = gq19 at kg19 pe19 hxg19 ne19_0 ⊢
          refine hK.out _ _ hc19 (fun hH19 => ?_)
          clear hc19
          clear hK KK
          try simp only [zz1, zz2, zz3, Act.put, zz4, zz5, zz6]
          refine rdH [7] ?_
          refine c1H rfl fun KK hK => ?_
          go_simp
          refine (return_ti hT hfb0 hfb1 (fun s => (DB4.out s).2) _ _ _ hH19.2.1.r.rows.2.1 hH19.2.1.r.rows.2.2).mono ?_
          rintro e xq20 ⟨zr, nr, er, ⟨Ar, cr, Br, dr, rfl, hr20, hkp20, hb20⟩, hq20⟩
          have kg20 := kg19.below hb20
          have pe20 := pe19.below hb20
          have pz20 := (PrN.rcv (X := Xp xb Vw (fun g => g = gq19)) pe19.r hb20 (.ofB hr20 (pe19.newX (fun b c => c ▸ kg19.lt))) (.ofB hkp20 (pe19.newX (fun b c => c ▸ kg19.lt))))
          have HQr := Lib.hid hq20
          clear hq20
          refine hK.out _ _ ⟨hH19.1.trans (hb20.mono (Nat.le_of_lt hH19.2.1.lt)), hH19.2.1.below hb20, hH19.2.2.below hb20⟩ (fun hH20 => ?_)
          clear hK KK
          try simp only [zz1, zz2, zz3, Act.put, zz4, zz5, zz6]
          refine tkH 8 rfl (yieldsIf_pure _ (.tuple #[.agg #[.int .u64 zr.g, .int .u64 zr.r, .int .u64 zr.fl, .slice Ar zr.tk.length cr, .slice Br zr.kp.length dr], .int .u64 nr, .int .i64 er]) rfl (.inl rfl) rfl) hH20 ?_
          try simp only [zz1, zz2, zz3, Act.put, zz4, zz5, zz6]
          refine tkH 9 rfl (yieldsIf_cell (.agg #[.int .u64 zr.g, .int .u64 zr.r, .int .u64 zr.fl, .slice Ar zr.tk.length cr, .slice Br zr.kp.length dr]) rfl (fun w h => by go_simp)) hH20 ?_
          try simp only [zz1, zz2, zz3, Act.put, zz4, zz5, zz6]
          refine tkH 10 rfl (yieldsIf_cell (.int .u64 nr) rfl (fun w h => by go_simp)) hH20 ?_
          try simp only [zz1, zz2, zz3, Act.put, zz4, zz5, zz6]
          refine tkH 11 rfl (yieldsIf_cell (.int .i64 er) rfl (fun w h => by go_simp)) hH20 ?_
          try simp only [zz1, zz2, zz3, Act.put, zz4, zz5, zz6]
          refine rdH [13] ?_
          refine c1H rfl fun KK hK => ?_
          rw [if_pos (by rfl)]
          refine wp_store_mid 29 _ _ rfl gq19 0 #[.int .u64 zr.g, .int .u64 zr.r, .int .u64 zr.fl, .slice Ar zr.tk.length cr, .slice Br zr.kp.length dr] rfl rfl (Blk.there kg20 0 _ (Nat.le_refl _)) (by kernel_rfl) (by kernel_rfl) ?_
          have kg21 : Blk (xq20.setCells gq19 0 (Array.toList #[.int .u64 zr.g, .int .u64 zr.r, .int .u64 zr.fl, .slice Ar zr.tk.length cr, .slice Br zr.kp.length dr])) gq19 29 #[.int .u64 zr.g, .int .u64 zr.r, .int .u64 zr.fl, .slice Ar zr.tk.length cr, .slice Br zr.kp.length dr] := kg20.setAll rfl
          have pe21 := pe20.far rfl (Array.toList #[.int .u64 zr.g, .int .u64 zr.r, .int .u64 zr.fl, .slice Ar zr.tk.length cr, .slice Br zr.kp.length dr]) 0
          have pz21 := pz20.setCells (.inr (.inr rfl)) (Array.toList #[.int .u64 zr.g, .int .u64 zr.r, .int .u64 zr.fl, .slice Ar zr.tk.length cr, .slice Br zr.kp.length dr]) 0
          have hc21 : (fun wy => Below xb w wy ∧ PX NoE wy xb S #[.int .i64 1, .int .u64 rt, .bool true, .int .u64 ro, .int .u64 0, .int .u64 0, .int .u64 0, .slice As' 0 cs', .int .u64 rr.g, .int .u64 rr.r, .int .u64 rr.fl, .slice A0 rr.tk.length c0, .slice B0 rr.kp.length d0] bs br Vw (sP st su ss) (rP rt true ro rr) way ∧ Blk wy g3 51 C) (xq20.setCells gq19 0 (Array.toList #[.int .u64 zr.g, .int .u64 zr.r, .int .u64 zr.fl, .slice Ar zr.tk.length cr, .slice Br zr.kp.length dr])) := ⟨below_setCells hxg19 _ _ hH20.1, pe21.noE, hH20.2.2.farAll ne19_0 _ _⟩
          generalize xq20.setCells gq19 0 (Array.toList #[.int .u64 zr.g, .int .u64 zr.r, .int .u64 zr.fl, .slice Ar zr.tk.length cr, .slice Br zr.kp.length dr]) = xq21 at hc21 kg21 pe21 pz21 ⊢
          refine hK.out _ _ hc21 (fun hH21 => ?_)
          clear hc21
          clear hK KK
          try simp only [zz1, zz2, zz3, Act.put, zz4, zz5, zz6]
          refine tkH 14 rfl (yieldsIf_pure _ (.int .u64 nr) rfl (.inr rfl) rfl) hH21 ?_
          try simp only [zz1, zz2, zz3, Act.put, zz4, zz5, zz6]
          refine tkH 15 rfl (yieldsIf_pure _ (.int .i64 er) rfl (.inr rfl) rfl) hH21 ?_
          try simp only [zz1, zz2, zz3, Act.put, zz4, zz5, zz6]
          refine wpAnyH_done (by kernel_rfl) ?_ _
          have hz := hH21.2.1
          have hBz := hH21.1
          have kfz := hH21.2.2
          have pzz := pz21.noE
          have kz := kg21
          clear hH21
          by_cases he : er = 0
          · subst he
            have Tr := HQr.out rfl
            go_wp2_with (first | (refine wpList_ldrow (by rfl) 29 _ (by rfl) gq19 (by rfl) 29 #[.int .u64 zr.g, .int .u64 zr.r, .int .u64 zr.fl, .slice Ar zr.tk.length cr, .slice Br zr.kp.length dr] (0, 0) _ kz Try.underlying29 (by rfl) (by kernel_rfl) ?_) | (refine wpList_store_gen (by rfl) 29 _ _ (by rfl) xb 21 #[.int .u64 zr.g, .int .u64 zr.r, .int .u64 zr.fl, .slice Ar zr.tk.length cr, .slice Br zr.kp.length dr] (by rfl) (by rfl) (by exact hz.there 21 5 (by decide)) (by kernel_rfl) (by kernel_rfl) ?_; intro Wb hWWb; have q0Wb : Wb.cell? ⟨g3, 0, none⟩ = some (.int .i64 f.kind) := by rw [hWWb.out]; exact ((kfz.farAll NX3.out _ _).cell 0).trans C0))
            have hz' : PX NoE Wb xb S #[.int .i64 1, .int .u64 rt, .bool true, .int .u64 ro, .int .u64 0, .int .u64 0, .int .u64 0, .slice As' 0 cs', .int .u64 zr.g, .int .u64 zr.r, .int .u64 zr.fl, .slice Ar zr.tk.length cr, .slice Br zr.kp.length dr] bs br Vw (sP st su ss) (rP rt true ro zr) way := by rw [hWWb.out]; exact hz.partR (o := 8) (l := Array.toList #[.int .u64 zr.g, .int .u64 zr.r, .int .u64 zr.fl, .slice Ar zr.tk.length cr, .slice Br zr.kp.length dr]) (Nat.le_refl 13) rfl pzz
            have hBz' : Below xb w Wb := by rw [hWWb.out]; exact below_setCells (Nat.le_refl _) _ _ hBz
            have kfz' : Blk Wb g3 51 C := by rw [hWWb.out]; exact kfz.farAll NX3.out _ _
            refine bodyPost_ret (v := .tuple #[]) (by simp [results, Try.results87, go_sem]) rfl ?_
            exact ⟨rfl, hBz', zr, _, TF.out zr Tr, hz'⟩
          · have e1 : (er == 0) = false := by simpa using he
            go_wp2_with fail
            refine bodyPost_ret (v := .tuple #[]) (by simp [results, Try.results87, go_sem]) rfl ?_
            exact ⟨rfl, hBz, rr, _, TF.out rr hT, hz⟩
        exact AllReadyH.nil
    · have e4 : (f.kind == 4) = false := by simpa using k4
      go_wp2_with fail
      refine bodyPost_ret (v := .tuple #[]) (by simp [results, Try.results87, go_sem]) rfl ?_
      exact ⟨rfl, hB, rr, _, TF.out rr TI0.out, h⟩

end Go.Proofs.Ytfgkkflbpfocjaa

