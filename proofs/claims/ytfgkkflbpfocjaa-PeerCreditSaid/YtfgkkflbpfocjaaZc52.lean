/- Whether the credit inequality holds (the reference). Whether the credit inequality holds: the program and the reference, whole. The law: the credit inequality holds between two nodes. -/
import Derived.Test.YtfgkkflbpfocjaaZc48
import Derived.Test.YtfgkkflbpfocjaaZc43
import Derived.Test.YtfgkkflbpfocjaaZc51
import Derived.Test.YtfgkkflbpfocjaaZc45
import Derived.Test.YtfgkkflbpfocjaaZc47
namespace Go.Proofs.Ytfgkkflbpfocjaa
open Go.RowKit
set_option linter.unusedVariables false
set_option linter.unusedSimpArgs false

end Go.Proofs.Ytfgkkflbpfocjaa

namespace Go.Proofs.Ytfgkkflbpfocjaa
open Go.RowKit
set_option linter.unusedVariables false
set_option linter.unusedSimpArgs false

def RetH (x : Bool × Int) (w : World) (e : Ending) (w' : World) : Prop := e = .returned (.tuple #[.bool x.1, .int .i64 x.2]) ∧ Below w.heap.size w w'
theorem okL_us {s : Led} (hk : okL s) (hw : Wf s) : usE s = usab s ∧ 0 ≤ usab s ∧ usab s ≤ 1125899906842624 := by
  obtain ⟨h1, h2, h3, h4⟩ := okL_sum hk hw
  refine ⟨if_pos hk, ?_⟩
  unfold usab
  omega

theorem Holds_any (s r : Pr) (hws : WfP s) (hwr : WfP r) (bs br : Int) (Vs Vr : Value) (w : World) (hs : PrAt w Vs s) (hr : PrAt w Vr r) :
    Calls Try.prog 13 #[Vs, .int .u64 bs, Vr, .int .u64 br] w (RetH (holdE s bs r br) w) := by
  have CS := fun w' (hb : Below w.heap.size w w') => pCheck_any s hws Vs w' (hs.below hb)
  have CR := fun w' (hb : Below w.heap.size w w') => pCheck_any r hwr Vr w' (hr.below hb)
  have HS := hs
  have HR := hr
  obtain ⟨vs, vt, vk, rfl, hs1, hs2, hs3⟩ := hs
  obtain ⟨As, cs, rfl⟩ := hs1.form
  obtain ⟨Bs, ds, rfl⟩ := hs2.form
  obtain ⟨Cs, es, rfl⟩ := hs3.form
  obtain ⟨us, ut, uk, rfl, hr1, hr2, hr3⟩ := hr
  obtain ⟨Ar, cr, rfl⟩ := hr1.form
  obtain ⟨Br, dr, rfl⟩ := hr2.form
  obtain ⟨Cr, er, rfl⟩ := hr3.form
  have hE : holdE s bs r br = if chkP s ≠ 0 then (false, chkP s) else if chkP r ≠ 0 then (false, chkP r) else if ¬ bootOk bs then (false, 2) else if ¬ bootOk br then (false, 2)
    else if s.theirs = br ∧ r.theirs = bs then (decide (usab s.s + opn' r.r s.s.sl ≤ heldP r), 0) else if s.theirs < br ∧ r.theirs = bs ∧ r.sure = false then (decide (usab s.s ≤ heldP r), 0) else (true, 0) := rfl
  by_cases c1 : chkP s = 0
  · by_cases c2 : chkP r = 0
    · rw [if_neg (by omega), if_neg (by omega)] at hE
      rw [c1] at CS
      rw [c2] at CR
      by_cases b0 : bs < 1
      · rw [if_pos (by unfold bootOk; omega)] at hE
        rw [hE]
        exact ph_b1 s.node s.theirs s.old s.sure s.s.g s.s.n s.s.r s.s.sl.length cs As s.r.g s.r.r s.r.fl s.r.tk.length ds Bs s.r.kp.length es Cs r.node r.theirs r.old r.sure r.s.g r.s.n r.s.r r.s.sl.length cr Ar r.r.g r.r.r r.r.fl r.r.tk.length dr Br r.r.kp.length er Cr bs br w CS CR b0
      by_cases b1 : bs > 1099511627776
      · rw [if_pos (by unfold bootOk; omega)] at hE
        rw [hE]
        exact ph_b2 s.node s.theirs s.old s.sure s.s.g s.s.n s.s.r s.s.sl.length cs As s.r.g s.r.r s.r.fl s.r.tk.length ds Bs s.r.kp.length es Cs r.node r.theirs r.old r.sure r.s.g r.s.n r.s.r r.s.sl.length cr Ar r.r.g r.r.r r.r.fl r.r.tk.length dr Br r.r.kp.length er Cr bs br w CS CR b0 b1
      rw [if_neg (by unfold bootOk; omega)] at hE
      by_cases b2 : br < 1
      · rw [if_pos (by unfold bootOk; omega)] at hE
        rw [hE]
        exact ph_b3 s.node s.theirs s.old s.sure s.s.g s.s.n s.s.r s.s.sl.length cs As s.r.g s.r.r s.r.fl s.r.tk.length ds Bs s.r.kp.length es Cs r.node r.theirs r.old r.sure r.s.g r.s.n r.s.r r.s.sl.length cr Ar r.r.g r.r.r r.r.fl r.r.tk.length dr Br r.r.kp.length er Cr bs br w CS CR b0 b1 b2
      by_cases b3 : br > 1099511627776
      · rw [if_pos (by unfold bootOk; omega)] at hE
        rw [hE]
        exact ph_b4 s.node s.theirs s.old s.sure s.s.g s.s.n s.s.r s.s.sl.length cs As s.r.g s.r.r s.r.fl s.r.tk.length ds Bs s.r.kp.length es Cs r.node r.theirs r.old r.sure r.s.g r.s.n r.s.r r.s.sl.length cr Ar r.r.g r.r.r r.r.fl r.r.tk.length dr Br r.r.kp.length er Cr bs br w CS CR b0 b1 b2 b3
      rw [if_neg (by unfold bootOk; omega)] at hE
      obtain ⟨hu1, hu2, hu3⟩ := okL_us (chkP_ok c1).2.1 hws.s
      have hk0 : (chk s.s).1 = 0 := (chkP_ok c1).2.1
      have hRd : Reads w 5 As s.s.sl.length (flat s.s.sl) := by
        obtain ⟨A, c, e, _, _, h⟩ := id hs1
        cases e; exact h
      have hcc : s.s.sl.length ≤ cs ∧ cs ≤ maxLen := by
        obtain ⟨A, c, e, h1, h2, _⟩ := id hs1
        cases e; exact ⟨h1, h2⟩
      have hwf : ∀ x ∈ s.s.sl, (0 ≤ x.off ∧ x.off ≤ 18446744073709551615) ∧ (0 ≤ x.size ∧ x.size ≤ 18446744073709551615) := fun x hx => ⟨(hws.s.2.2.2 x hx).1, (hws.s.2.2.2 x hx).2.1⟩
      have OB := fun k (hk : k ≤ s.s.sl.length) => oSum_b (r := r.r) (chkP_ok c1).2.1 hws.s hk
      have hsn := (okL_n (chkP_ok c1).2.1 hws.s)
      have OB2 : ∀ k, k ≤ s.s.sl.length → 0 ≤ oSum r.r s.s.sl k ∧ oSum r.r s.s.sl k ≤ 1125899906842624 := fun k hk => by have := OB k hk; omega
      have US : ∀ w', Below w.heap.size w w' → Calls Try.prog 39 #[.agg #[.int .u64 s.s.g, .int .u64 s.s.n, .int .u64 s.s.r, .slice As s.s.sl.length cs]] w' (Ret2 .u64 .i64 (usab s.s) 0 w') := fun w' hb => by
        have := Usable_any s.s hws.s _ w' (hs1.below hb)
        rwa [hu1, hk0] at this
      have HE := fun w' (hb : Below w.heap.size w w') => pheld_any r hwr c2 _ w' (HR.below hb)
      have ST := fun w' (hb : Below w.heap.size w w') off size ho hz => State_any r.r hwr.r off size ho hz _ _ w' (hr2.below hb) (hr3.below hb)
      have hps : ∀ x ∈ s.s.sl, (stE r.r x.off x.size).2 = 0 ∨ (stE r.r x.off x.size).2 = 14 := fun x hx => stE_err (chkP_r c2) (okL_pos (chkP_ok c1).2.1 x hx)
      have hop : 0 ≤ opn' r.r s.s.sl ∧ opn' r.r s.s.sl ≤ 1125899906842624 := by have := OB2 _ (Nat.le_refl _); rwa [oSum_all] at this
      by_cases e2 : r.theirs = bs
      · by_cases e1 : s.theirs = br
        · rw [if_pos ⟨e1, e2⟩] at hE
          rw [hE]
          exact ph_now s.node s.theirs s.old s.sure s.s.g s.s.n s.s.r s.s.sl.length cs As s.r.g s.r.r s.r.fl s.r.tk.length ds Bs s.r.kp.length es Cs r.node r.theirs r.old r.sure r.s.g r.s.n r.s.r r.s.sl.length cr Ar r.r.g r.r.r r.r.fl r.r.tk.length dr Br r.r.kp.length er Cr bs br w CS CR b0 b1 b2 b3 (usab s.s) (heldP r) US HE s.s.sl rfl r.r hRd hcc hwf hps ST ⟨hu2, hu3⟩ hop (by simp [e1]) (by simp [e1]) (by simp [e2])
        · rw [if_neg (fun h => e1 h.1)] at hE
          by_cases e3 : s.theirs < br
          · by_cases e4 : r.sure = false
            · rw [if_pos ⟨e3, e2, e4⟩] at hE
              rw [hE]
              exact (by have := ph_before s.node s.theirs s.old s.sure s.s.g s.s.n s.s.r s.s.sl.length cs As s.r.g s.r.r s.r.fl s.r.tk.length ds Bs s.r.kp.length es Cs r.node r.theirs r.old r.sure r.s.g r.s.n r.s.r r.s.sl.length cr Ar r.r.g r.r.r r.r.fl r.r.tk.length dr Br r.r.kp.length er Cr bs br w CS CR b0 b1 b2 b3 (usab s.s) (heldP r) US HE s.s.sl rfl r.r hRd hcc hwf hps ST ⟨hu2, hu3⟩ (by simp [e1]) (by simp [e3]) (by simp [e2]) e4; rwa [Int.add_zero] at this)
            · rw [if_neg (fun h => e4 h.2.2)] at hE
              rw [hE]
              exact ph_sk3 s.node s.theirs s.old s.sure s.s.g s.s.n s.s.r s.s.sl.length cs As s.r.g s.r.r s.r.fl s.r.tk.length ds Bs s.r.kp.length es Cs r.node r.theirs r.old r.sure r.s.g r.s.n r.s.r r.s.sl.length cr Ar r.r.g r.r.r r.r.fl r.r.tk.length dr Br r.r.kp.length er Cr bs br w CS CR b0 b1 b2 b3 (by simp [e1]) (by simp [e3]) (by simp [e2]) (by simpa using e4)
          · rw [if_neg (fun h => e3 h.1)] at hE
            rw [hE]
            by_cases e4 : r.sure = false
            · exact ph_sk7 s.node s.theirs s.old s.sure s.s.g s.s.n s.s.r s.s.sl.length cs As s.r.g s.r.r s.r.fl s.r.tk.length ds Bs s.r.kp.length es Cs r.node r.theirs r.old r.sure r.s.g r.s.n r.s.r r.s.sl.length cr Ar r.r.g r.r.r r.r.fl r.r.tk.length dr Br r.r.kp.length er Cr bs br w CS CR b0 b1 b2 b3 (by simp [e1]) (by simp [e3]) (by simp [e2]) e4
            · exact ph_sk6 s.node s.theirs s.old s.sure s.s.g s.s.n s.s.r s.s.sl.length cs As s.r.g s.r.r s.r.fl s.r.tk.length ds Bs s.r.kp.length es Cs r.node r.theirs r.old r.sure r.s.g r.s.n r.s.r r.s.sl.length cr Ar r.r.g r.r.r r.r.fl r.r.tk.length dr Br r.r.kp.length er Cr bs br w CS CR b0 b1 b2 b3 (by simp [e1]) (by simp [e3]) (by simp [e2]) (by simpa using e4)
      · rw [if_neg (fun h => e2 h.2), if_neg (fun h => e2 h.2.1)] at hE
        rw [hE]
        by_cases e1 : s.theirs = br
        · by_cases e4 : r.sure = false
          · exact ph_sk2 s.node s.theirs s.old s.sure s.s.g s.s.n s.s.r s.s.sl.length cs As s.r.g s.r.r s.r.fl s.r.tk.length ds Bs s.r.kp.length es Cs r.node r.theirs r.old r.sure r.s.g r.s.n r.s.r r.s.sl.length cr Ar r.r.g r.r.r r.r.fl r.r.tk.length dr Br r.r.kp.length er Cr bs br w CS CR b0 b1 b2 b3 (by simp [e1]) (by simp [e1]) (by simp [e2]) e4
          · exact ph_sk1 s.node s.theirs s.old s.sure s.s.g s.s.n s.s.r s.s.sl.length cs As s.r.g s.r.r s.r.fl s.r.tk.length ds Bs s.r.kp.length es Cs r.node r.theirs r.old r.sure r.s.g r.s.n r.s.r r.s.sl.length cr Ar r.r.g r.r.r r.r.fl r.r.tk.length dr Br r.r.kp.length er Cr bs br w CS CR b0 b1 b2 b3 (by simp [e1]) (by simp [e1]) (by simp [e2]) (by simpa using e4)
        · by_cases e3 : s.theirs < br
          · by_cases e4 : r.sure = false
            · exact ph_sk5 s.node s.theirs s.old s.sure s.s.g s.s.n s.s.r s.s.sl.length cs As s.r.g s.r.r s.r.fl s.r.tk.length ds Bs s.r.kp.length es Cs r.node r.theirs r.old r.sure r.s.g r.s.n r.s.r r.s.sl.length cr Ar r.r.g r.r.r r.r.fl r.r.tk.length dr Br r.r.kp.length er Cr bs br w CS CR b0 b1 b2 b3 (by simp [e1]) (by simp [e3]) (by simp [e2]) e4
            · exact ph_sk4 s.node s.theirs s.old s.sure s.s.g s.s.n s.s.r s.s.sl.length cs As s.r.g s.r.r s.r.fl s.r.tk.length ds Bs s.r.kp.length es Cs r.node r.theirs r.old r.sure r.s.g r.s.n r.s.r r.s.sl.length cr Ar r.r.g r.r.r r.r.fl r.r.tk.length dr Br r.r.kp.length er Cr bs br w CS CR b0 b1 b2 b3 (by simp [e1]) (by simp [e3]) (by simp [e2]) (by simpa using e4)
          · by_cases e4 : r.sure = false
            · exact ph_sk9 s.node s.theirs s.old s.sure s.s.g s.s.n s.s.r s.s.sl.length cs As s.r.g s.r.r s.r.fl s.r.tk.length ds Bs s.r.kp.length es Cs r.node r.theirs r.old r.sure r.s.g r.s.n r.s.r r.s.sl.length cr Ar r.r.g r.r.r r.r.fl r.r.tk.length dr Br r.r.kp.length er Cr bs br w CS CR b0 b1 b2 b3 (by simp [e1]) (by simp [e3]) (by simp [e2]) e4
            · exact ph_sk8 s.node s.theirs s.old s.sure s.s.g s.s.n s.s.r s.s.sl.length cs As s.r.g s.r.r s.r.fl s.r.tk.length ds Bs s.r.kp.length es Cs r.node r.theirs r.old r.sure r.s.g r.s.n r.s.r r.s.sl.length cr Ar r.r.g r.r.r r.r.fl r.r.tk.length dr Br r.r.kp.length er Cr bs br w CS CR b0 b1 b2 b3 (by simp [e1]) (by simp [e3]) (by simp [e2]) (by simpa using e4)
    · rw [if_neg (by omega), if_pos c2] at hE
      rw [hE]
      rw [c1] at CS
      exact ph_r s.node s.theirs s.old s.sure s.s.g s.s.n s.s.r s.s.sl.length cs As s.r.g s.r.r s.r.fl s.r.tk.length ds Bs s.r.kp.length es Cs r.node r.theirs r.old r.sure r.s.g r.s.n r.s.r r.s.sl.length cr Ar r.r.g r.r.r r.r.fl r.r.tk.length dr Br r.r.kp.length er Cr bs br w (chkP r) CS CR c2
  · rw [if_pos c1] at hE
    rw [hE]
    exact ph_s s.node s.theirs s.old s.sure s.s.g s.s.n s.s.r s.s.sl.length cs As s.r.g s.r.r s.r.fl s.r.tk.length ds Bs s.r.kp.length es Cs r.node r.theirs r.old r.sure r.s.g r.s.n r.s.r r.s.sl.length cr Ar r.r.g r.r.r r.r.fl r.r.tk.length dr Br r.r.kp.length er Cr bs br w (chkP s) CS c1

end Go.Proofs.Ytfgkkflbpfocjaa

namespace Go.Proofs.Ytfgkkflbpfocjaa
open Go.RowKit
open List renaming getElem_toArray → zz1, getElem_cons_succ → zz2, getElem_cons_zero → zz3, setIfInBounds_toArray → zz4, set_cons_zero → zz5, set_cons_succ → zz6
set_option linter.unusedVariables false
set_option linter.unusedSimpArgs false

theorem act_any {i st : Int} {su : Bool} {ss : Led} {rt : Int} {ru : Bool} {ro : Int} {rr : Rec} {bs br : Int} {way : List Fr} (hI : Inv i st su ss rt ru ro rr bs br way) (hi : i < 1000) (hWY : WY way) (hwl : way.length ≤ 40) (n ii : Int) (hn : 0 ≤ n ∧ n < 1048576) (hii : 0 ≤ ii ∧ ii ≤ 1000)
    (xb : Nat) (S R : Array Value) (A : Option Addr) (c : Nat) (w : World) (h : PX NoE w xb S R bs br (.slice A way.length c) (sP st su ss) (rP rt ru ro rr) way) :
    Calls Try.prog 15 #[.pointer (some ⟨xb, 0, none⟩), .int .i64 n, .int .i64 ii] w (ActPost (i + 1) xb w) := by
  have h0 : 0 ≤ n.tmod 12 := by rw [Int.tmod_eq_emod_of_nonneg hn.1]; omega
  rcases (show n.tmod 12 = 0 ∨ n.tmod 12 = 1 ∨ n.tmod 12 = 2 ∨ n.tmod 12 = 3 ∨ n.tmod 12 = 4 ∨ n.tmod 12 = 5 ∨ n.tmod 12 = 6 ∨ n.tmod 12 = 7 ∨ n.tmod 12 = 8 ∨ 9 ≤ n.tmod 12 by omega) with a | a | a | a | a | a | a | a | a | a
  · exact act_0 hI hi hWY hwl n ii hn a hii xb S R A c w h
  · exact act_1 hI hi hWY hwl n ii hn a hii xb S R A c w h
  · exact act_2 hI hi hWY hwl n ii hn a hii xb S R A c w h
  · exact act_3 hI hi hWY hwl n ii hn a hii xb S R A c w h
  · exact act_45 hI hi hWY hwl n ii hn (.inl a) hii xb S R A c w h
  · exact act_45 hI hi hWY hwl n ii hn (.inr a) hii xb S R A c w h
  · exact act_6 hI hi hWY hwl n ii hn a hii xb S R A c w h
  · exact act_7 hI hi hWY hwl n ii hn a hii xb S R A c w h
  · exact act_8 hI hi hWY hwl n ii hn a hii xb S R A c w h
  · exact act_9 hI hi hWY hwl n ii hn a hii xb S R A c w h
theorem pair_zero (w : World) : PX NoE (w.alloc (.cells (mkP #[.int .i64 2, .int .u64 0, .bool false, .int .u64 0, .int .u64 0, .int .u64 0, .int .u64 0, .slice none 0 0, .int .u64 0, .int .u64 0, .int .u64 0, .slice none 0 0, .slice none 0 0] #[.int .i64 1, .int .u64 0, .bool false, .int .u64 0, .int .u64 0, .int .u64 0, .int .u64 0, .slice none 0 0, .int .u64 0, .int .u64 0, .int .u64 0, .slice none 0 0, .slice none 0 0] 1 1 (.slice none 0 0)) 42)) w.heap.size #[.int .i64 2, .int .u64 0, .bool false, .int .u64 0, .int .u64 0, .int .u64 0, .int .u64 0, .slice none 0 0, .int .u64 0, .int .u64 0, .int .u64 0, .slice none 0 0, .slice none 0 0] #[.int .i64 1, .int .u64 0, .bool false, .int .u64 0, .int .u64 0, .int .u64 0, .int .u64 0, .slice none 0 0, .int .u64 0, .int .u64 0, .int .u64 0, .slice none 0 0, .slice none 0 0] 1 1 (.slice none 0 0) (sP 0 false zSend) (rP 0 false 0 zRec) [] := by
  have hX : ∀ b, w.heap.size + 1 ≤ b → ¬ Xp w.heap.size (.slice none 0 0) NoE b := fun b hb c => by
    rcases c with a | a | a
    · omega
    · cases a
    · exact a
  exact ⟨Blk.new _ _ _, .ofB (zPr_at' (w.heap.size + 1) _ 2 0 false 0) hX, .ofB (zPr_at' (w.heap.size + 1) _ 1 0 false 0) hX, World.ownsRow_nil _ _ _ _, fun _ c => absurd c id⟩

set_option maxRecDepth 100000 in
set_option maxHeartbeats 8000000 in
theorem PeerCredit_t (xs : List Int) (V0 : Value) (w : World) (hS : SlAt w 1 V0 xs.length (ints xs)) :
    Calls Try.prog 4 #[V0] w (RetB true w) := by
  obtain ⟨A0, c0, rfl, _, hc2, hR⟩ := hS
  unfold maxLen at hc2
  have HR := Lib.hid hR
  clear hR
  go_enter Try.func4, Try.ntmps4
  go_upto_region 2 with (go_big_may; first | (refine wpList_buildTo (by rfl) 31 #[(0, .const (.int .i64 2))] (by rfl) _ rfl #[.int .i64 2, .int .u64 0, .bool false, .int .u64 0, .int .u64 0, .int .u64 0, .int .u64 0, .slice none 0 0, .int .u64 0, .int .u64 0, .int .u64 0, .slice none 0 0, .slice none 0 0] (by kernel_rfl) ?_) | (refine wpList_buildTo (by rfl) 31 #[(0, .const (.int .i64 1))] (by rfl) _ rfl #[.int .i64 1, .int .u64 0, .bool false, .int .u64 0, .int .u64 0, .int .u64 0, .int .u64 0, .slice none 0 0, .int .u64 0, .int .u64 0, .int .u64 0, .slice none 0 0, .slice none 0 0] (by kernel_rfl) ?_) | (refine wpList_buildTo (by rfl) 42 _ (by rfl) _ rfl (mkP #[.int .i64 2, .int .u64 0, .bool false, .int .u64 0, .int .u64 0, .int .u64 0, .int .u64 0, .slice none 0 0, .int .u64 0, .int .u64 0, .int .u64 0, .slice none 0 0, .slice none 0 0] #[.int .i64 1, .int .u64 0, .bool false, .int .u64 0, .int .u64 0, .int .u64 0, .int .u64 0, .slice none 0 0, .int .u64 0, .int .u64 0, .int .u64 0, .slice none 0 0, .slice none 0 0] 1 1 (.slice none 0 0)) (by kernel_rfl) ?_))
  have hp0 := pair_zero w
  have hB0 := bal (Below.refl w.heap.size w) (.cells (mkP #[.int .i64 2, .int .u64 0, .bool false, .int .u64 0, .int .u64 0, .int .u64 0, .int .u64 0, .slice none 0 0, .int .u64 0, .int .u64 0, .int .u64 0, .slice none 0 0, .slice none 0 0] #[.int .i64 1, .int .u64 0, .bool false, .int .u64 0, .int .u64 0, .int .u64 0, .int .u64 0, .slice none 0 0, .int .u64 0, .int .u64 0, .int .u64 0, .slice none 0 0, .slice none 0 0] 1 1 (.slice none 0 0)) 42)
  obtain ⟨xb, hxb⟩ : ∃ xb, w.heap.size = xb := ⟨_, rfl⟩
  have HXB := Lib.hid hxb.symm
  have HLB : Hid (∀ b, b < w.heap.size → b < xb) := Lib.hid (fun b hb => by omega)
  generalize w.alloc (.cells (mkP #[.int .i64 2, .int .u64 0, .bool false, .int .u64 0, .int .u64 0, .int .u64 0, .int .u64 0, .slice none 0 0, .int .u64 0, .int .u64 0, .int .u64 0, .slice none 0 0, .slice none 0 0] #[.int .i64 1, .int .u64 0, .bool false, .int .u64 0, .int .u64 0, .int .u64 0, .int .u64 0, .slice none 0 0, .int .u64 0, .int .u64 0, .int .u64 0, .slice none 0 0, .slice none 0 0] 1 1 (.slice none 0 0)) 42) = w1 at hp0 hB0 ⊢
  rw [hxb] at hp0 hB0 ⊢
  clear hxb
  go_wp2_with fail
  go_loopw [4] (fun s4 wr => ∃ (k : Nat) (bs br : Int), k ≤ xs.length ∧ k ≤ 60 ∧ s4 = .int .i64 k ∧ GW k bs br xb wr ∧ Below xb w wr) (fun s4 _ => 60 - (intOf s4).toNat)
  case atStart => exact ⟨0, 1, 1, Nat.zero_le _, Nat.zero_le _, rfl, ⟨0, false, zSend, 0, false, 0, zRec, [], _, _, none, 0, inv_zero, (fun f hf => by cases hf), Nat.zero_le _, hp0⟩, hB0⟩
  case round =>
    clear hp0 hB0
    obtain ⟨k, bs, br, hk, hk6, rfl, hG, hB⟩ := hrel
    have GL : Hid (xb ≤ wr.heap.size) := Lib.hid (by obtain ⟨_, _, _, _, _, _, _, _, _, _, _, _, _, _, _, h⟩ := hG; exact Nat.le_of_lt h.lt)
    have hk0 : (0 : Int) ≤ k := by omega
    by_cases hlt : k < xs.length
    · have hki : (k : Int) < xs.length := by omega
      by_cases h60 : k < 60
      · have hk60 : (k : Int) < 60 := by omega
        obtain ⟨b, o, rfl, hb, hx⟩ := HR.out.2 (by omega)
        obtain ⟨x, hxk⟩ : ∃ x, xs[k]? = some x := ⟨_, List.getElem?_eq_getElem hlt⟩
        have d0 := (hB.cell (p := ⟨b, o + k, none⟩) (HLB.out b hb)).trans (hx k (.int .i64 x) (by simp [ints, hxk]))
        clear hx hxk
        go_wp2_with fail
        refine (Mod_rng _ _ _ (by decide) (by decide)).mono ?_
        rintro e wq ⟨m, ⟨hm0, hm1⟩, rfl, rfl⟩
        go_wp2_with fail
        obtain ⟨st, su, ss, rt, ru, ro, rr, way, S, R, A, c, hI, hWY, hwl, hp⟩ := hG
        refine (act_any hI (by omega) hWY hwl m k ⟨hm0, hm1⟩ (by omega) xb S R A c _ hp).mono ?_
        rintro e w3 ⟨rfl, hb3, bs', br', hG3⟩
        have hB3 := hB.trans hb3
        clear hb3 hp hI hWY hwl hB d0 S R way
        obtain ⟨st, su, ss, rt, ru, ro, rr, way, S, R, A, c, hI, hWY, hwl, hp⟩ := hG3
        obtain ⟨bs, hbs⟩ : ∃ y, bs' = y := ⟨_, rfl⟩
        obtain ⟨br, hbr⟩ : ∃ y, br' = y := ⟨_, rfl⟩
        rw [hbs, hbr] at hI hp
        clear hbs hbr
        have HOLD : Hid (∀ V V' w, PrAt w V (sP st su ss) → PrAt w V' (rP rt ru ro rr) → Calls Try.prog 13 #[V, .int .u64 bs, V', .int .u64 br] w (RetH (true, 0) w)) := Lib.hid (fun V V' w h1 h2 => by
          have q := Holds_any (sP st su ss) (rP rt ru ro rr) hI.wfS hI.wfR bs br V V' w h1 h2
          rw [hI.holdsE] at q
          exact q)
        have HI := Lib.hid hI
        have HSS := Lib.hid hp.s.size
        have HRS := Lib.hid hp.r.size
        clear hI
        go_upto_region 7 with fail
        refine wp_region_held_drew (S := fun wy => Below xb w wy ∧ PX NoE wy xb S R bs br (.slice A way.length c) (sP st su ss) (rP rt ru ro rr) way) (by kernel_rfl) ⟨hB3.drew, hp.drew⟩ (fun hH => ?_)
        generalize w3.drew = xq1 at hH ⊢
        refine tkH 0 rfl (yieldsIf_pure _ (.pointer (some ⟨xb, 0, none⟩)) rfl (.inl rfl) rfl) hH ?_
        try simp only [zz1, zz2, zz3, Act.put, zz4, zz5, zz6]
        refine tkH 1 rfl (yieldsIf_cell (.pointer (some ⟨xb, 0, none⟩)) rfl (fun w h => rfl)) hH ?_
        try simp only [zz1, zz2, zz3, Act.put, zz4, zz5, zz6]
        refine tkH 2 rfl (yieldsIf_cell (.pointer (some ⟨xb, 0, none⟩)) rfl (fun w h => by go_simp)) hH ?_
        try simp only [zz1, zz2, zz3, Act.put, zz4, zz5, zz6]
        refine tkH 3 rfl (yS rfl _ rfl xb 0 rfl S (fun w h => h.2.rngS) HSS.out) hH ?_
        try simp only [zz1, zz2, zz3, Act.put, zz4, zz5, zz6]
        refine tkH 4 rfl (yieldsIf_pure _ (.pointer (some ⟨xb, 0, none⟩)) rfl (.inl rfl) rfl) hH ?_
        try simp only [zz1, zz2, zz3, Act.put, zz4, zz5, zz6]
        refine tkH 5 rfl (yieldsIf_cell (.pointer (some ⟨xb, 0, none⟩)) rfl (fun w h => rfl)) hH ?_
        try simp only [zz1, zz2, zz3, Act.put, zz4, zz5, zz6]
        refine tkH 6 rfl (yieldsIf_cell (.pointer (some ⟨xb, 26, none⟩)) rfl (fun w h => by go_simp)) hH ?_
        try simp only [zz1, zz2, zz3, Act.put, zz4, zz5, zz6]
        refine tkH 7 rfl (yieldsIf_cell (.int .u64 bs) rfl (fun wy h => by have j0 := h.2.c26; go_simp)) hH ?_
        try simp only [zz1, zz2, zz3, Act.put, zz4, zz5, zz6]
        refine tkH 8 rfl (yieldsIf_pure _ (.pointer (some ⟨xb, 0, none⟩)) rfl (.inl rfl) rfl) hH ?_
        try simp only [zz1, zz2, zz3, Act.put, zz4, zz5, zz6]
        refine tkH 9 rfl (yieldsIf_cell (.pointer (some ⟨xb, 0, none⟩)) rfl (fun w h => rfl)) hH ?_
        try simp only [zz1, zz2, zz3, Act.put, zz4, zz5, zz6]
        refine tkH 10 rfl (yieldsIf_cell (.pointer (some ⟨xb, 13, none⟩)) rfl (fun w h => by go_simp)) hH ?_
        try simp only [zz1, zz2, zz3, Act.put, zz4, zz5, zz6]
        refine tkH 11 rfl (yS rfl _ rfl xb 13 rfl R (fun w h => h.2.rngR) HRS.out) hH ?_
        try simp only [zz1, zz2, zz3, Act.put, zz4, zz5, zz6]
        refine tkH 12 rfl (yieldsIf_pure _ (.pointer (some ⟨xb, 0, none⟩)) rfl (.inl rfl) rfl) hH ?_
        try simp only [zz1, zz2, zz3, Act.put, zz4, zz5, zz6]
        refine tkH 13 rfl (yieldsIf_cell (.pointer (some ⟨xb, 0, none⟩)) rfl (fun w h => rfl)) hH ?_
        try simp only [zz1, zz2, zz3, Act.put, zz4, zz5, zz6]
        refine tkH 14 rfl (yieldsIf_cell (.pointer (some ⟨xb, 27, none⟩)) rfl (fun w h => by go_simp)) hH ?_
        try simp only [zz1, zz2, zz3, Act.put, zz4, zz5, zz6]
        refine tkH 15 rfl (yieldsIf_cell (.int .u64 br) rfl (fun wy h => by have j0 := h.2.c27; go_simp)) hH ?_
        try simp only [zz1, zz2, zz3, Act.put, zz4, zz5, zz6]
        refine rdH [16] ?_
        refine c1H rfl fun KK hK => ?_
        go_simp
        refine (HOLD.out _ _ _ hH.2.s.at hH.2.r.at).mono ?_
        rintro e xq2 ⟨rfl, hb2⟩
        refine hK.out _ _ ⟨hH.1.trans (hb2.mono (Nat.le_of_lt hH.2.lt)), hH.2.below hb2⟩ (fun hH2 => ?_)
        clear hK KK
        try simp only [zz1, zz2, zz3, Act.put, zz4, zz5, zz6]
        refine tkH 17 rfl (yieldsIf_pure _ (.tuple #[.bool true, .int .i64 0]) rfl (.inl rfl) rfl) hH2 ?_
        try simp only [zz1, zz2, zz3, Act.put, zz4, zz5, zz6]
        refine tkH 18 rfl (yieldsIf_cell (.bool true) rfl (fun w h => by go_simp)) hH2 ?_
        try simp only [zz1, zz2, zz3, Act.put, zz4, zz5, zz6]
        refine tkH 19 rfl (yieldsIf_cell (.int .i64 0) rfl (fun w h => by go_simp)) hH2 ?_
        try simp only [zz1, zz2, zz3, Act.put, zz4, zz5, zz6]
        refine tkH 20 rfl (yieldsIf_pure _ (.bool true) rfl (.inr rfl) rfl) hH2 ?_
        try simp only [zz1, zz2, zz3, Act.put, zz4, zz5, zz6]
        refine tkH 21 rfl (yieldsIf_pure _ (.int .i64 0) rfl (.inr rfl) rfl) hH2 ?_
        try simp only [zz1, zz2, zz3, Act.put, zz4, zz5, zz6]
        refine wpAnyH_done (by kernel_rfl) ?_ _
        have hz := hH2.2
        have hBz := hH2.1
        clear hH2
        go_wp2_with fail
        go_roundw
        case rel =>
          have e : ((k + 1 : Nat) : Int) = (k : Int) + 1 := by omega
          exact ⟨k + 1, bs, br, by omega, by omega, by go_num, by rw [e]; exact ⟨st, su, ss, rt, ru, ro, rr, way, S, R, A, c, HI.out, hWY, hwl, hz⟩, hBz⟩
        case measure => simp [intOf]; omega
      · obtain rfl : k = 60 := by omega
        have hk60 : ¬ ((60 : Nat) : Int) < 60 := by decide
        go_wp2_with fail
        refine (awake_any _).mono ?_
        rintro e w9 ⟨rfl, hb⟩
        have hl : xb ≤ wr.heap.size := GL.out
        have hB9 := hB.trans (hb.mono hl)
        go_wp2_with fail
        go_ret
        exact ⟨rfl, HXB.out ▸ hB9⟩
    · obtain rfl : k = xs.length := by omega
      have hki : ¬ (xs.length : Int) < xs.length := by omega
      go_wp2_with fail
      refine (awake_any _).mono ?_
      rintro e w9 ⟨rfl, hb⟩
      have hl : xb ≤ wr.heap.size := GL.out
      have hB9 := hB.trans (hb.mono hl)
      go_wp2_with fail
      go_ret
      exact ⟨rfl, HXB.out ▸ hB9⟩
end Go.Proofs.Ytfgkkflbpfocjaa

