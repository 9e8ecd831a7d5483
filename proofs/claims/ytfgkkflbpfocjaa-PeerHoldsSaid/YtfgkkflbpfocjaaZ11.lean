/- Whether the credit inequality holds: the program and the reference, whole. The law PeerHolds: the program and the reference answer alike whether the credit inequality holds. -/
import Derived.Test.YtfgkkflbpfocjaaZ9
import Derived.Test.YtfgkkflbpfocjaaZ10
namespace Go.Proofs.Ytfgkkflbpfocjaa
open Go.RowKit
set_option linter.unusedVariables false
set_option linter.unusedSimpArgs false

def RetH (x : Bool × Int) (w : World) (e : Ending) (w' : World) : Prop := e = .returned (.tuple #[.bool x.1, .int .i64 x.2]) ∧ Below w.heap.size w w'
theorem okL_us {s : Led} (hk : okL s) (hw : Wf s) : usE s = usab s ∧ 0 ≤ usab s ∧ usab s ≤ 1125899906842624 := by
  obtain ⟨h1, h2, h3, h4⟩ := okL_sum hk hw
  refine ⟨if_pos hk, ?_⟩
  unfold usab
  omega

theorem Holds_any (s r : Pr) (hws : WfP s) (hwr : WfP r) (bs br : Int) (Vs Vr : Value) (w : World) (hs : PrAt w Vs s) (hr : PrAt w Vr r) :
    Calls Try.prog 13 #[Vs, .int .u64 bs, Vr, .int .u64 br] w (RetH (holdE s bs r br) w) := by
  have CS := fun w' (hb : Below w.heap.size w w') => pCheck_any s hws Vs w' (hs.below hb)
  have CR := fun w' (hb : Below w.heap.size w w') => pCheck_any r hwr Vr w' (hr.below hb)
  have HS := hs
  have HR := hr
  obtain ⟨vs, vt, vk, rfl, hs1, hs2, hs3⟩ := hs
  obtain ⟨As, cs, rfl⟩ := hs1.form
  obtain ⟨Bs, ds, rfl⟩ := hs2.form
  obtain ⟨Cs, es, rfl⟩ := hs3.form
  obtain ⟨us, ut, uk, rfl, hr1, hr2, hr3⟩ := hr
  obtain ⟨Ar, cr, rfl⟩ := hr1.form
  obtain ⟨Br, dr, rfl⟩ := hr2.form
  obtain ⟨Cr, er, rfl⟩ := hr3.form
  have hE : holdE s bs r br = if chkP s ≠ 0 then (false, chkP s) else if chkP r ≠ 0 then (false, chkP r) else if ¬ bootOk bs then (false, 2) else if ¬ bootOk br then (false, 2)
    else if s.theirs = br ∧ r.theirs = bs then (decide (usab s.s + opn' r.r s.s.sl ≤ heldP r), 0) else if s.theirs < br ∧ r.theirs = bs ∧ r.sure = false then (decide (usab s.s ≤ heldP r), 0) else (true, 0) := rfl
  by_cases c1 : chkP s = 0
  · by_cases c2 : chkP r = 0
    · rw [if_neg (by omega), if_neg (by omega)] at hE
      rw [c1] at CS
      rw [c2] at CR
      by_cases b0 : bs < 1
      · rw [if_pos (by unfold bootOk; omega)] at hE
        rw [hE]
        exact ph_b1 s.node s.theirs s.old s.sure s.s.g s.s.n s.s.r s.s.sl.length cs As s.r.g s.r.r s.r.fl s.r.tk.length ds Bs s.r.kp.length es Cs r.node r.theirs r.old r.sure r.s.g r.s.n r.s.r r.s.sl.length cr Ar r.r.g r.r.r r.r.fl r.r.tk.length dr Br r.r.kp.length er Cr bs br w CS CR b0
      by_cases b1 : bs > 1099511627776
      · rw [if_pos (by unfold bootOk; omega)] at hE
        rw [hE]
        exact ph_b2 s.node s.theirs s.old s.sure s.s.g s.s.n s.s.r s.s.sl.length cs As s.r.g s.r.r s.r.fl s.r.tk.length ds Bs s.r.kp.length es Cs r.node r.theirs r.old r.sure r.s.g r.s.n r.s.r r.s.sl.length cr Ar r.r.g r.r.r r.r.fl r.r.tk.length dr Br r.r.kp.length er Cr bs br w CS CR b0 b1
      rw [if_neg (by unfold bootOk; omega)] at hE
      by_cases b2 : br < 1
      · rw [if_pos (by unfold bootOk; omega)] at hE
        rw [hE]
        exact ph_b3 s.node s.theirs s.old s.sure s.s.g s.s.n s.s.r s.s.sl.length cs As s.r.g s.r.r s.r.fl s.r.tk.length ds Bs s.r.kp.length es Cs r.node r.theirs r.old r.sure r.s.g r.s.n r.s.r r.s.sl.length cr Ar r.r.g r.r.r r.r.fl r.r.tk.length dr Br r.r.kp.length er Cr bs br w CS CR b0 b1 b2
      by_cases b3 : br > 1099511627776
      · rw [if_pos (by unfold bootOk; omega)] at hE
        rw [hE]
        exact ph_b4 s.node s.theirs s.old s.sure s.s.g s.s.n s.s.r s.s.sl.length cs As s.r.g s.r.r s.r.fl s.r.tk.length ds Bs s.r.kp.length es Cs r.node r.theirs r.old r.sure r.s.g r.s.n r.s.r r.s.sl.length cr Ar r.r.g r.r.r r.r.fl r.r.tk.length dr Br r.r.kp.length er Cr bs br w CS CR b0 b1 b2 b3
      rw [if_neg (by unfold bootOk; omega)] at hE
      obtain ⟨hu1, hu2, hu3⟩ := okL_us (chkP_ok c1).2.1 hws.s
      have hk0 : (chk s.s).1 = 0 := (chkP_ok c1).2.1
      have hRd : Reads w 5 As s.s.sl.length (flat s.s.sl) := by
        obtain ⟨A, c, e, _, _, h⟩ := id hs1
        cases e; exact h
      have hcc : s.s.sl.length ≤ cs ∧ cs ≤ maxLen := by
        obtain ⟨A, c, e, h1, h2, _⟩ := id hs1
        cases e; exact ⟨h1, h2⟩
      have hwf : ∀ x ∈ s.s.sl, (0 ≤ x.off ∧ x.off ≤ 18446744073709551615) ∧ (0 ≤ x.size ∧ x.size ≤ 18446744073709551615) := fun x hx => ⟨(hws.s.2.2.2 x hx).1, (hws.s.2.2.2 x hx).2.1⟩
      have OB := fun k (hk : k ≤ s.s.sl.length) => oSum_b (r := r.r) (chkP_ok c1).2.1 hws.s hk
      have hsn := (okL_n (chkP_ok c1).2.1 hws.s)
      have OB2 : ∀ k, k ≤ s.s.sl.length → 0 ≤ oSum r.r s.s.sl k ∧ oSum r.r s.s.sl k ≤ 1125899906842624 := fun k hk => by have := OB k hk; omega
      have US : ∀ w', Below w.heap.size w w' → Calls Try.prog 39 #[.agg #[.int .u64 s.s.g, .int .u64 s.s.n, .int .u64 s.s.r, .slice As s.s.sl.length cs]] w' (Ret2 .u64 .i64 (usab s.s) 0 w') := fun w' hb => by
        have := Usable_any s.s hws.s _ w' (hs1.below hb)
        rwa [hu1, hk0] at this
      have HE := fun w' (hb : Below w.heap.size w w') => pheld_any r hwr c2 _ w' (HR.below hb)
      have ST := fun w' (hb : Below w.heap.size w w') off size ho hz => State_any r.r hwr.r off size ho hz _ _ w' (hr2.below hb) (hr3.below hb)
      have hps : ∀ x ∈ s.s.sl, (stE r.r x.off x.size).2 = 0 ∨ (stE r.r x.off x.size).2 = 14 := fun x hx => stE_err (chkP_r c2) (okL_pos (chkP_ok c1).2.1 x hx)
      have hop : 0 ≤ opn' r.r s.s.sl ∧ opn' r.r s.s.sl ≤ 1125899906842624 := by have := OB2 _ (Nat.le_refl _); rwa [oSum_all] at this
      by_cases e2 : r.theirs = bs
      · by_cases e1 : s.theirs = br
        · rw [if_pos ⟨e1, e2⟩] at hE
          rw [hE]
          exact ph_now s.node s.theirs s.old s.sure s.s.g s.s.n s.s.r s.s.sl.length cs As s.r.g s.r.r s.r.fl s.r.tk.length ds Bs s.r.kp.length es Cs r.node r.theirs r.old r.sure r.s.g r.s.n r.s.r r.s.sl.length cr Ar r.r.g r.r.r r.r.fl r.r.tk.length dr Br r.r.kp.length er Cr bs br w CS CR b0 b1 b2 b3 (usab s.s) (heldP r) US HE s.s.sl rfl r.r hRd hcc hwf hps ST ⟨hu2, hu3⟩ hop (by simp [e1]) (by simp [e1]) (by simp [e2])
        · rw [if_neg (fun h => e1 h.1)] at hE
          by_cases e3 : s.theirs < br
          · by_cases e4 : r.sure = false
            · rw [if_pos ⟨e3, e2, e4⟩] at hE
              rw [hE]
              exact (by have := ph_before s.node s.theirs s.old s.sure s.s.g s.s.n s.s.r s.s.sl.length cs As s.r.g s.r.r s.r.fl s.r.tk.length ds Bs s.r.kp.length es Cs r.node r.theirs r.old r.sure r.s.g r.s.n r.s.r r.s.sl.length cr Ar r.r.g r.r.r r.r.fl r.r.tk.length dr Br r.r.kp.length er Cr bs br w CS CR b0 b1 b2 b3 (usab s.s) (heldP r) US HE s.s.sl rfl r.r hRd hcc hwf hps ST ⟨hu2, hu3⟩ (by simp [e1]) (by simp [e3]) (by simp [e2]) e4; rwa [Int.add_zero] at this)
            · rw [if_neg (fun h => e4 h.2.2)] at hE
              rw [hE]
              exact ph_sk3 s.node s.theirs s.old s.sure s.s.g s.s.n s.s.r s.s.sl.length cs As s.r.g s.r.r s.r.fl s.r.tk.length ds Bs s.r.kp.length es Cs r.node r.theirs r.old r.sure r.s.g r.s.n r.s.r r.s.sl.length cr Ar r.r.g r.r.r r.r.fl r.r.tk.length dr Br r.r.kp.length er Cr bs br w CS CR b0 b1 b2 b3 (by simp [e1]) (by simp [e3]) (by simp [e2]) (by simpa using e4)
          · rw [if_neg (fun h => e3 h.1)] at hE
            rw [hE]
            by_cases e4 : r.sure = false
            · exact ph_sk7 s.node s.theirs s.old s.sure s.s.g s.s.n s.s.r s.s.sl.length cs As s.r.g s.r.r s.r.fl s.r.tk.length ds Bs s.r.kp.length es Cs r.node r.theirs r.old r.sure r.s.g r.s.n r.s.r r.s.sl.length cr Ar r.r.g r.r.r r.r.fl r.r.tk.length dr Br r.r.kp.length er Cr bs br w CS CR b0 b1 b2 b3 (by simp [e1]) (by simp [e3]) (by simp [e2]) e4
            · exact ph_sk6 s.node s.theirs s.old s.sure s.s.g s.s.n s.s.r s.s.sl.length cs As s.r.g s.r.r s.r.fl s.r.tk.length ds Bs s.r.kp.length es Cs r.node r.theirs r.old r.sure r.s.g r.s.n r.s.r r.s.sl.length cr Ar r.r.g r.r.r r.r.fl r.r.tk.length dr Br r.r.kp.length er Cr bs br w CS CR b0 b1 b2 b3 (by simp [e1]) (by simp [e3]) (by simp [e2]) (by simpa using e4)
      · rw [if_neg (fun h => e2 h.2), if_neg (fun h => e2 h.2.1)] at hE
        rw [hE]
        by_cases e1 : s.theirs = br
        · by_cases e4 : r.sure = false
          · exact ph_sk2 s.node s.theirs s.old s.sure s.s.g s.s.n s.s.r s.s.sl.length cs As s.r.g s.r.r s.r.fl s.r.tk.length ds Bs s.r.kp.length es Cs r.node r.theirs r.old r.sure r.s.g r.s.n r.s.r r.s.sl.length cr Ar r.r.g r.r.r r.r.fl r.r.tk.length dr Br r.r.kp.length er Cr bs br w CS CR b0 b1 b2 b3 (by simp [e1]) (by simp [e1]) (by simp [e2]) e4
          · exact ph_sk1 s.node s.theirs s.old s.sure s.s.g s.s.n s.s.r s.s.sl.length cs As s.r.g s.r.r s.r.fl s.r.tk.length ds Bs s.r.kp.length es Cs r.node r.theirs r.old r.sure r.s.g r.s.n r.s.r r.s.sl.length cr Ar r.r.g r.r.r r.r.fl r.r.tk.length dr Br r.r.kp.length er Cr bs br w CS CR b0 b1 b2 b3 (by simp [e1]) (by simp [e1]) (by simp [e2]) (by simpa using e4)
        · by_cases e3 : s.theirs < br
          · by_cases e4 : r.sure = false
            · exact ph_sk5 s.node s.theirs s.old s.sure s.s.g s.s.n s.s.r s.s.sl.length cs As s.r.g s.r.r s.r.fl s.r.tk.length ds Bs s.r.kp.length es Cs r.node r.theirs r.old r.sure r.s.g r.s.n r.s.r r.s.sl.length cr Ar r.r.g r.r.r r.r.fl r.r.tk.length dr Br r.r.kp.length er Cr bs br w CS CR b0 b1 b2 b3 (by simp [e1]) (by simp [e3]) (by simp [e2]) e4
            · exact ph_sk4 s.node s.theirs s.old s.sure s.s.g s.s.n s.s.r s.s.sl.length cs As s.r.g s.r.r s.r.fl s.r.tk.length ds Bs s.r.kp.length es Cs r.node r.theirs r.old r.sure r.s.g r.s.n r.s.r r.s.sl.length cr Ar r.r.g r.r.r r.r.fl r.r.tk.length dr Br r.r.kp.length er Cr bs br w CS CR b0 b1 b2 b3 (by simp [e1]) (by simp [e3]) (by simp [e2]) (by simpa using e4)
          · by_cases e4 : r.sure = false
            · exact ph_sk9 s.node s.theirs s.old s.sure s.s.g s.s.n s.s.r s.s.sl.length cs As s.r.g s.r.r s.r.fl s.r.tk.length ds Bs s.r.kp.length es Cs r.node r.theirs r.old r.sure r.s.g r.s.n r.s.r r.s.sl.length cr Ar r.r.g r.r.r r.r.fl r.r.tk.length dr Br r.r.kp.length er Cr bs br w CS CR b0 b1 b2 b3 (by simp [e1]) (by simp [e3]) (by simp [e2]) e4
            · exact ph_sk8 s.node s.theirs s.old s.sure s.s.g s.s.n s.s.r s.s.sl.length cs As s.r.g s.r.r s.r.fl s.r.tk.length ds Bs s.r.kp.length es Cs r.node r.theirs r.old r.sure r.s.g r.s.n r.s.r r.s.sl.length cr Ar r.r.g r.r.r r.r.fl r.r.tk.length dr Br r.r.kp.length er Cr bs br w CS CR b0 b1 b2 b3 (by simp [e1]) (by simp [e3]) (by simp [e2]) (by simpa using e4)
    · rw [if_neg (by omega), if_pos c2] at hE
      rw [hE]
      rw [c1] at CS
      exact ph_r s.node s.theirs s.old s.sure s.s.g s.s.n s.s.r s.s.sl.length cs As s.r.g s.r.r s.r.fl s.r.tk.length ds Bs s.r.kp.length es Cs r.node r.theirs r.old r.sure r.s.g r.s.n r.s.r r.s.sl.length cr Ar r.r.g r.r.r r.r.fl r.r.tk.length dr Br r.r.kp.length er Cr bs br w (chkP r) CS CR c2
  · rw [if_pos c1] at hE
    rw [hE]
    exact ph_s s.node s.theirs s.old s.sure s.s.g s.s.n s.s.r s.s.sl.length cs As s.r.g s.r.r s.r.fl s.r.tk.length ds Bs s.r.kp.length es Cs r.node r.theirs r.old r.sure r.s.g r.s.n r.s.r r.s.sl.length cr Ar r.r.g r.r.r r.r.fl r.r.tk.length dr Br r.r.kp.length er Cr bs br w (chkP s) CS c1

theorem rHolds_any (s r : Pr) (hws : WfP s) (hwr : WfP r) (bs br : Int) (Vs Vr : Value) (w : World) (hs : PrAt w Vs s) (hr : PrAt w Vr r) :
    Calls Try.prog 14 #[Vs, .int .u64 bs, Vr, .int .u64 br] w (RetH (holdE s bs r br) w) := by
  have CS := fun w' (hb : Below w.heap.size w w') => rpCheck_any s hws Vs w' (hs.below hb)
  have CR := fun w' (hb : Below w.heap.size w w') => rpCheck_any r hwr Vr w' (hr.below hb)
  have HS := hs
  have HR := hr
  obtain ⟨vs, vt, vk, rfl, hs1, hs2, hs3⟩ := hs
  obtain ⟨As, cs, rfl⟩ := hs1.form
  obtain ⟨Bs, ds, rfl⟩ := hs2.form
  obtain ⟨Cs, es, rfl⟩ := hs3.form
  obtain ⟨us, ut, uk, rfl, hr1, hr2, hr3⟩ := hr
  obtain ⟨Ar, cr, rfl⟩ := hr1.form
  obtain ⟨Br, dr, rfl⟩ := hr2.form
  obtain ⟨Cr, er, rfl⟩ := hr3.form
  have hE : holdE s bs r br = if chkP s ≠ 0 then (false, chkP s) else if chkP r ≠ 0 then (false, chkP r) else if ¬ bootOk bs then (false, 2) else if ¬ bootOk br then (false, 2)
    else if s.theirs = br ∧ r.theirs = bs then (decide (usab s.s + opn' r.r s.s.sl ≤ heldP r), 0) else if s.theirs < br ∧ r.theirs = bs ∧ r.sure = false then (decide (usab s.s ≤ heldP r), 0) else (true, 0) := rfl
  by_cases c1 : chkP s = 0
  · by_cases c2 : chkP r = 0
    · rw [if_neg (by omega), if_neg (by omega)] at hE
      rw [c1] at CS
      rw [c2] at CR
      have BS := fun w => boots_any bs w
      have BR := fun w => boots_any br w
      by_cases b0 : bootOk bs
      · rw [if_pos b0] at BS
        rw [if_neg (by simp [b0])] at hE
        by_cases b1 : bootOk br
        · rw [if_pos b1] at BR
          rw [if_neg (by simp [b1])] at hE
          obtain ⟨hu1, hu2, hu3⟩ := okL_us (chkP_ok c1).2.1 hws.s
          have hk0 : (chk s.s).1 = 0 := (chkP_ok c1).2.1
          have hRd : Reads w 5 As s.s.sl.length (flat s.s.sl) := by
            obtain ⟨A, c, e, _, _, h⟩ := id hs1
            cases e; exact h
          have hcc : s.s.sl.length ≤ cs ∧ cs ≤ maxLen := by
            obtain ⟨A, c, e, h1, h2, _⟩ := id hs1
            cases e; exact ⟨h1, h2⟩
          have hwf : ∀ x ∈ s.s.sl, (0 ≤ x.off ∧ x.off ≤ 18446744073709551615) ∧ (0 ≤ x.size ∧ x.size ≤ 18446744073709551615) := fun x hx => ⟨(hws.s.2.2.2 x hx).1, (hws.s.2.2.2 x hx).2.1⟩
          have OB := fun k (hk : k ≤ s.s.sl.length) => oSum_b (r := r.r) (chkP_ok c1).2.1 hws.s hk
          have hsn := (okL_n (chkP_ok c1).2.1 hws.s)
          have OB2 : ∀ k, k ≤ s.s.sl.length → 0 ≤ oSum r.r s.s.sl k ∧ oSum r.r s.s.sl k ≤ 1125899906842624 := fun k hk => by have := OB k hk; omega
          have US : ∀ w', Below w.heap.size w w' → Calls Try.prog 43 #[.agg #[.int .u64 s.s.g, .int .u64 s.s.n, .int .u64 s.s.r, .slice As s.s.sl.length cs]] w' (Ret2 .u64 .i64 (usab s.s) 0 w') := fun w' hb => by
            have := rUsable_any s.s hws.s _ w' (hs1.below hb)
            rwa [hu1, hk0] at this
          have HE : ∀ w', Below w.heap.size w w' → Calls Try.prog 33 #[_] w' (Ret2 .u64 .i64 (heldP r) 0 w') := fun w' hb => by
            have := rHeld_any r hwr _ w' (HR.below hb)
            rwa [show hlE r = heldP r from if_pos c2, c2] at this
          have ST := fun w' (hb : Below w.heap.size w w') off size ho hz => rState_any r.r hwr.r off size ho hz _ _ w' (hr2.below hb) (hr3.below hb)
          by_cases e2 : r.theirs = bs
          · by_cases e1 : s.theirs = br
            · rw [if_pos ⟨e1, e2⟩] at hE
              rw [hE]
              exact (by have := rh_now s.node s.theirs s.old s.sure s.s.g s.s.n s.s.r s.s.sl.length cs As s.r.g s.r.r s.r.fl s.r.tk.length ds Bs s.r.kp.length es Cs r.node r.theirs r.old r.sure r.s.g r.s.n r.s.r r.s.sl.length cr Ar r.r.g r.r.r r.r.fl r.r.tk.length dr Br r.r.kp.length er Cr bs br w CS CR BS BR (usab s.s) (heldP r) US HE s.s.sl rfl r.r (oSum r.r s.s.sl) ⟨hu2, hu3⟩ OB2 rfl (fun k hk => rfl) hRd hcc hwf ST (by simp [e1]) (by simp [e1]) (by simp [e2]); rwa [oSum_all] at this)
            · rw [if_neg (fun h => e1 h.1)] at hE
              by_cases e3 : s.theirs < br
              · by_cases e4 : r.sure = false
                · rw [if_pos ⟨e3, e2, e4⟩] at hE
                  rw [hE]
                  exact rh_before s.node s.theirs s.old s.sure s.s.g s.s.n s.s.r s.s.sl.length cs As s.r.g s.r.r s.r.fl s.r.tk.length ds Bs s.r.kp.length es Cs r.node r.theirs r.old r.sure r.s.g r.s.n r.s.r r.s.sl.length cr Ar r.r.g r.r.r r.r.fl r.r.tk.length dr Br r.r.kp.length er Cr bs br w CS CR BS BR (usab s.s) (heldP r) US HE (by simp [e1]) (by simp [e3]) (by simp [e2]) e4
                · rw [if_neg (fun h => e4 h.2.2)] at hE
                  rw [hE]
                  exact rh_sk3 s.node s.theirs s.old s.sure s.s.g s.s.n s.s.r s.s.sl.length cs As s.r.g s.r.r s.r.fl s.r.tk.length ds Bs s.r.kp.length es Cs r.node r.theirs r.old r.sure r.s.g r.s.n r.s.r r.s.sl.length cr Ar r.r.g r.r.r r.r.fl r.r.tk.length dr Br r.r.kp.length er Cr bs br w CS CR BS BR (by simp [e1]) (by simp [e3]) (by simp [e2]) (by simpa using e4)
              · rw [if_neg (fun h => e3 h.1)] at hE
                rw [hE]
                by_cases e4 : r.sure = false
                · exact rh_sk7 s.node s.theirs s.old s.sure s.s.g s.s.n s.s.r s.s.sl.length cs As s.r.g s.r.r s.r.fl s.r.tk.length ds Bs s.r.kp.length es Cs r.node r.theirs r.old r.sure r.s.g r.s.n r.s.r r.s.sl.length cr Ar r.r.g r.r.r r.r.fl r.r.tk.length dr Br r.r.kp.length er Cr bs br w CS CR BS BR (by simp [e1]) (by simp [e3]) (by simp [e2]) e4
                · exact rh_sk6 s.node s.theirs s.old s.sure s.s.g s.s.n s.s.r s.s.sl.length cs As s.r.g s.r.r s.r.fl s.r.tk.length ds Bs s.r.kp.length es Cs r.node r.theirs r.old r.sure r.s.g r.s.n r.s.r r.s.sl.length cr Ar r.r.g r.r.r r.r.fl r.r.tk.length dr Br r.r.kp.length er Cr bs br w CS CR BS BR (by simp [e1]) (by simp [e3]) (by simp [e2]) (by simpa using e4)
          · rw [if_neg (fun h => e2 h.2), if_neg (fun h => e2 h.2.1)] at hE
            rw [hE]
            by_cases e1 : s.theirs = br
            · by_cases e4 : r.sure = false
              · exact rh_sk2 s.node s.theirs s.old s.sure s.s.g s.s.n s.s.r s.s.sl.length cs As s.r.g s.r.r s.r.fl s.r.tk.length ds Bs s.r.kp.length es Cs r.node r.theirs r.old r.sure r.s.g r.s.n r.s.r r.s.sl.length cr Ar r.r.g r.r.r r.r.fl r.r.tk.length dr Br r.r.kp.length er Cr bs br w CS CR BS BR (by simp [e1]) (by simp [e1]) (by simp [e2]) e4
              · exact rh_sk1 s.node s.theirs s.old s.sure s.s.g s.s.n s.s.r s.s.sl.length cs As s.r.g s.r.r s.r.fl s.r.tk.length ds Bs s.r.kp.length es Cs r.node r.theirs r.old r.sure r.s.g r.s.n r.s.r r.s.sl.length cr Ar r.r.g r.r.r r.r.fl r.r.tk.length dr Br r.r.kp.length er Cr bs br w CS CR BS BR (by simp [e1]) (by simp [e1]) (by simp [e2]) (by simpa using e4)
            · by_cases e3 : s.theirs < br
              · by_cases e4 : r.sure = false
                · exact rh_sk5 s.node s.theirs s.old s.sure s.s.g s.s.n s.s.r s.s.sl.length cs As s.r.g s.r.r s.r.fl s.r.tk.length ds Bs s.r.kp.length es Cs r.node r.theirs r.old r.sure r.s.g r.s.n r.s.r r.s.sl.length cr Ar r.r.g r.r.r r.r.fl r.r.tk.length dr Br r.r.kp.length er Cr bs br w CS CR BS BR (by simp [e1]) (by simp [e3]) (by simp [e2]) e4
                · exact rh_sk4 s.node s.theirs s.old s.sure s.s.g s.s.n s.s.r s.s.sl.length cs As s.r.g s.r.r s.r.fl s.r.tk.length ds Bs s.r.kp.length es Cs r.node r.theirs r.old r.sure r.s.g r.s.n r.s.r r.s.sl.length cr Ar r.r.g r.r.r r.r.fl r.r.tk.length dr Br r.r.kp.length er Cr bs br w CS CR BS BR (by simp [e1]) (by simp [e3]) (by simp [e2]) (by simpa using e4)
              · by_cases e4 : r.sure = false
                · exact rh_sk9 s.node s.theirs s.old s.sure s.s.g s.s.n s.s.r s.s.sl.length cs As s.r.g s.r.r s.r.fl s.r.tk.length ds Bs s.r.kp.length es Cs r.node r.theirs r.old r.sure r.s.g r.s.n r.s.r r.s.sl.length cr Ar r.r.g r.r.r r.r.fl r.r.tk.length dr Br r.r.kp.length er Cr bs br w CS CR BS BR (by simp [e1]) (by simp [e3]) (by simp [e2]) e4
                · exact rh_sk8 s.node s.theirs s.old s.sure s.s.g s.s.n s.s.r s.s.sl.length cs As s.r.g s.r.r s.r.fl s.r.tk.length ds Bs s.r.kp.length es Cs r.node r.theirs r.old r.sure r.s.g r.s.n r.s.r r.s.sl.length cr Ar r.r.g r.r.r r.r.fl r.r.tk.length dr Br r.r.kp.length er Cr bs br w CS CR BS BR (by simp [e1]) (by simp [e3]) (by simp [e2]) (by simpa using e4)
        · rw [if_neg b1] at BR
          rw [if_pos b1] at hE
          rw [hE]
          exact rh_br s.node s.theirs s.old s.sure s.s.g s.s.n s.s.r s.s.sl.length cs As s.r.g s.r.r s.r.fl s.r.tk.length ds Bs s.r.kp.length es Cs r.node r.theirs r.old r.sure r.s.g r.s.n r.s.r r.s.sl.length cr Ar r.r.g r.r.r r.r.fl r.r.tk.length dr Br r.r.kp.length er Cr bs br w CS CR BS BR
      · rw [if_neg b0] at BS
        rw [if_pos b0] at hE
        rw [hE]
        exact rh_bs s.node s.theirs s.old s.sure s.s.g s.s.n s.s.r s.s.sl.length cs As s.r.g s.r.r s.r.fl s.r.tk.length ds Bs s.r.kp.length es Cs r.node r.theirs r.old r.sure r.s.g r.s.n r.s.r r.s.sl.length cr Ar r.r.g r.r.r r.r.fl r.r.tk.length dr Br r.r.kp.length er Cr bs br w CS CR BS
    · rw [if_neg (by omega), if_pos c2] at hE
      rw [hE]
      rw [c1] at CS
      exact rh_r s.node s.theirs s.old s.sure s.s.g s.s.n s.s.r s.s.sl.length cs As s.r.g s.r.r s.r.fl s.r.tk.length ds Bs s.r.kp.length es Cs r.node r.theirs r.old r.sure r.s.g r.s.n r.s.r r.s.sl.length cr Ar r.r.g r.r.r r.r.fl r.r.tk.length dr Br r.r.kp.length er Cr bs br w (chkP r) CS CR c2
  · rw [if_pos c1] at hE
    rw [hE]
    exact rh_s s.node s.theirs s.old s.sure s.s.g s.s.n s.s.r s.s.sl.length cs As s.r.g s.r.r s.r.fl s.r.tk.length ds Bs s.r.kp.length es Cs r.node r.theirs r.old r.sure r.s.g r.s.n r.s.r r.s.sl.length cr Ar r.r.g r.r.r r.r.fl r.r.tk.length dr Br r.r.kp.length er Cr bs br w (chkP s) CS c1

end Go.Proofs.Ytfgkkflbpfocjaa

namespace Go.Proofs.Ytfgkkflbpfocjaa
open Go.RowKit
set_option linter.unusedVariables false
set_option linter.unusedSimpArgs false

set_option maxRecDepth 100000 in
set_option maxHeartbeats 4000000 in
theorem PH1 (node th old : Int) (su : Bool) (g n r : Int) (S cs : Nat) (As : Option Addr) (a b f : Int) (T ct : Nat) (At : Option Addr) (K ck : Nat) (Ak : Option Addr) (node' th' old' : Int) (su' : Bool) (g' n' r' : Int) (S' cs' : Nat) (As' : Option Addr) (a' b' f' : Int) (T' ct' : Nat) (At' : Option Addr) (K' ck' : Nat) (Ak' : Option Addr) (bs br : Int) (w : World) (LS : ∀ w', Below w.heap.size w w' → Calls Try.prog 11 #[.agg #[.int .i64 node, .int .u64 th, .bool su, .int .u64 old, .int .u64 g, .int .u64 n, .int .u64 r, .slice As S cs, .int .u64 a, .int .u64 b, .int .u64 f, .slice At T ct, .slice Ak K ck]] w' (RetB true w')) :
    Calls Try.prog 3 #[.agg #[.int .i64 node, .int .u64 th, .bool su, .int .u64 old, .int .u64 g, .int .u64 n, .int .u64 r, .slice As S cs, .int .u64 a, .int .u64 b, .int .u64 f, .slice At T ct, .slice Ak K ck], .int .u64 bs, .agg #[.int .i64 node', .int .u64 th', .bool su', .int .u64 old', .int .u64 g', .int .u64 n', .int .u64 r', .slice As' S' cs', .int .u64 a', .int .u64 b', .int .u64 f', .slice At' T' ct', .slice Ak' K' ck'], .int .u64 br] w (RetB true w) := by
  have LS' := Lib.hid LS
  clear LS
  go_enter Try.func3, Try.ntmps3
  go_upto_region 1 with fail
  have k0 : BK2 w w.heap.size 31 #[.int .i64 node, .int .u64 th, .bool su, .int .u64 old, .int .u64 g, .int .u64 n, .int .u64 r, .slice As S cs, .int .u64 a, .int .u64 b, .int .u64 f, .slice At T ct, .slice Ak K ck] (w.heap.size + 1) 31 #[.int .i64 node', .int .u64 th', .bool su', .int .u64 old', .int .u64 g', .int .u64 n', .int .u64 r', .slice As' S' cs', .int .u64 a', .int .u64 b', .int .u64 f', .slice At' T' ct', .slice Ak' K' ck'] _ := ⟨(Blk.new w 31 #[.int .i64 node, .int .u64 th, .bool su, .int .u64 old, .int .u64 g, .int .u64 n, .int .u64 r, .slice As S cs, .int .u64 a, .int .u64 b, .int .u64 f, .slice At T ct, .slice Ak K ck]).alloc (.cells #[.int .i64 node', .int .u64 th', .bool su', .int .u64 old', .int .u64 g', .int .u64 n', .int .u64 r', .slice As' S' cs', .int .u64 a', .int .u64 b', .int .u64 f', .slice At' T' ct', .slice Ak' K' ck'] 31), Blk.new1 w (.cells #[.int .i64 node, .int .u64 th, .bool su, .int .u64 old, .int .u64 g, .int .u64 n, .int .u64 r, .slice As S cs, .int .u64 a, .int .u64 b, .int .u64 f, .slice At T ct, .slice Ak K ck] 31) 31 #[.int .i64 node', .int .u64 th', .bool su', .int .u64 old', .int .u64 g', .int .u64 n', .int .u64 r', .slice As' S' cs', .int .u64 a', .int .u64 b', .int .u64 f', .slice At' T' ct', .slice Ak' K' ck'], bal (bal (Below.refl _ _) (.cells #[.int .i64 node, .int .u64 th, .bool su, .int .u64 old, .int .u64 g, .int .u64 n, .int .u64 r, .slice As S cs, .int .u64 a, .int .u64 b, .int .u64 f, .slice At T ct, .slice Ak K ck] 31)) (.cells #[.int .i64 node', .int .u64 th', .bool su', .int .u64 old', .int .u64 g', .int .u64 n', .int .u64 r', .slice As' S' cs', .int .u64 a', .int .u64 b', .int .u64 f', .slice At' T' ct', .slice Ak' K' ck'] 31)⟩
  obtain ⟨g1, hg1⟩ : ∃ g1, w.heap.size + 1 = g1 := ⟨_, rfl⟩
  rw [hg1] at k0 ⊢
  clear hg1
  obtain ⟨g0, hg0⟩ : ∃ g0, w.heap.size = g0 := ⟨_, rfl⟩
  rw [hg0] at k0 ⊢
  clear hg0
  generalize (w.alloc (.cells #[.int .i64 node, .int .u64 th, .bool su, .int .u64 old, .int .u64 g, .int .u64 n, .int .u64 r, .slice As S cs, .int .u64 a, .int .u64 b, .int .u64 f, .slice At T ct, .slice Ak K ck] 31)).alloc (.cells #[.int .i64 node', .int .u64 th', .bool su', .int .u64 old', .int .u64 g', .int .u64 n', .int .u64 r', .slice As' S' cs', .int .u64 a', .int .u64 b', .int .u64 f', .slice At' T' ct', .slice Ak' K' ck'] 31) = w1 at k0 ⊢
  have K1 := Lib.hid k0
  have kb := k0.b
  have kc := k0.c
  clear k0
  go_wp2_with (first | (refine wpList_load_row (by rfl) 31 _ (by rfl) g0 (by rfl) 31 #[.int .i64 node, .int .u64 th, .bool su, .int .u64 old, .int .u64 g, .int .u64 n, .int .u64 r, .slice As S cs, .int .u64 a, .int .u64 b, .int .u64 f, .slice At T ct, .slice Ak K ck] (0, 0) _ kb Try.underlying31 (by rfl) (by kernel_rfl) ?_) | (refine wpList_load_row (by rfl) 31 _ (by rfl) g1 (by rfl) 31 #[.int .i64 node', .int .u64 th', .bool su', .int .u64 old', .int .u64 g', .int .u64 n', .int .u64 r', .slice As' S' cs', .int .u64 a', .int .u64 b', .int .u64 f', .slice At' T' ct', .slice Ak' K' ck'] (0, 0) _ kc Try.underlying31 (by rfl) (by kernel_rfl) ?_))
  refine (LS'.out _ K1.out.hB).mono ?_
  rintro e w2 ⟨rfl, hb1⟩
  have kk := K1.out.below hb1
  clear K1 kb kc hb1
  have kb := kk.b
  have kc := kk.c
  have hl0 := kb.lt
  have hl1 := kc.lt
  have K1 := Lib.hid kk
  clear kk
  go_wp2_with (first | (refine wpList_load_row (by rfl) 31 _ (by rfl) g0 (by rfl) 31 #[.int .i64 node, .int .u64 th, .bool su, .int .u64 old, .int .u64 g, .int .u64 n, .int .u64 r, .slice As S cs, .int .u64 a, .int .u64 b, .int .u64 f, .slice At T ct, .slice Ak K ck] (0, 0) _ kb Try.underlying31 (by rfl) (by kernel_rfl) ?_) | (refine wpList_load_row (by rfl) 31 _ (by rfl) g1 (by rfl) 31 #[.int .i64 node', .int .u64 th', .bool su', .int .u64 old', .int .u64 g', .int .u64 n', .int .u64 r', .slice As' S' cs', .int .u64 a', .int .u64 b', .int .u64 f', .slice At' T' ct', .slice Ak' K' ck'] (0, 0) _ kc Try.underlying31 (by rfl) (by kernel_rfl) ?_))
  refine (awake_any _).mono ?_
  rintro e w9 ⟨rfl, hb1⟩
  have kk := K1.out.below hb1
  clear K1 kb kc hb1
  have kb := kk.b
  have kc := kk.c
  have hl0 := kb.lt
  have hl1 := kc.lt
  have K1 := Lib.hid kk
  clear kk
  go_wp2_with fail
  go_ret
  exact ⟨rfl, K1.out.hB⟩

set_option maxRecDepth 100000 in
set_option maxHeartbeats 4000000 in
theorem PH2 (node th old : Int) (su : Bool) (g n r : Int) (S cs : Nat) (As : Option Addr) (a b f : Int) (T ct : Nat) (At : Option Addr) (K ck : Nat) (Ak : Option Addr) (node' th' old' : Int) (su' : Bool) (g' n' r' : Int) (S' cs' : Nat) (As' : Option Addr) (a' b' f' : Int) (T' ct' : Nat) (At' : Option Addr) (K' ck' : Nat) (Ak' : Option Addr) (bs br : Int) (w : World) (LS : ∀ w', Below w.heap.size w w' → Calls Try.prog 11 #[.agg #[.int .i64 node, .int .u64 th, .bool su, .int .u64 old, .int .u64 g, .int .u64 n, .int .u64 r, .slice As S cs, .int .u64 a, .int .u64 b, .int .u64 f, .slice At T ct, .slice Ak K ck]] w' (RetB false w')) (LR : ∀ w', Below w.heap.size w w' → Calls Try.prog 11 #[.agg #[.int .i64 node', .int .u64 th', .bool su', .int .u64 old', .int .u64 g', .int .u64 n', .int .u64 r', .slice As' S' cs', .int .u64 a', .int .u64 b', .int .u64 f', .slice At' T' ct', .slice Ak' K' ck']] w' (RetB true w')) :
    Calls Try.prog 3 #[.agg #[.int .i64 node, .int .u64 th, .bool su, .int .u64 old, .int .u64 g, .int .u64 n, .int .u64 r, .slice As S cs, .int .u64 a, .int .u64 b, .int .u64 f, .slice At T ct, .slice Ak K ck], .int .u64 bs, .agg #[.int .i64 node', .int .u64 th', .bool su', .int .u64 old', .int .u64 g', .int .u64 n', .int .u64 r', .slice As' S' cs', .int .u64 a', .int .u64 b', .int .u64 f', .slice At' T' ct', .slice Ak' K' ck'], .int .u64 br] w (RetB true w) := by
  have LS' := Lib.hid LS
  clear LS
  have LR' := Lib.hid LR
  clear LR
  go_enter Try.func3, Try.ntmps3
  go_upto_region 1 with fail
  have k0 : BK2 w w.heap.size 31 #[.int .i64 node, .int .u64 th, .bool su, .int .u64 old, .int .u64 g, .int .u64 n, .int .u64 r, .slice As S cs, .int .u64 a, .int .u64 b, .int .u64 f, .slice At T ct, .slice Ak K ck] (w.heap.size + 1) 31 #[.int .i64 node', .int .u64 th', .bool su', .int .u64 old', .int .u64 g', .int .u64 n', .int .u64 r', .slice As' S' cs', .int .u64 a', .int .u64 b', .int .u64 f', .slice At' T' ct', .slice Ak' K' ck'] _ := ⟨(Blk.new w 31 #[.int .i64 node, .int .u64 th, .bool su, .int .u64 old, .int .u64 g, .int .u64 n, .int .u64 r, .slice As S cs, .int .u64 a, .int .u64 b, .int .u64 f, .slice At T ct, .slice Ak K ck]).alloc (.cells #[.int .i64 node', .int .u64 th', .bool su', .int .u64 old', .int .u64 g', .int .u64 n', .int .u64 r', .slice As' S' cs', .int .u64 a', .int .u64 b', .int .u64 f', .slice At' T' ct', .slice Ak' K' ck'] 31), Blk.new1 w (.cells #[.int .i64 node, .int .u64 th, .bool su, .int .u64 old, .int .u64 g, .int .u64 n, .int .u64 r, .slice As S cs, .int .u64 a, .int .u64 b, .int .u64 f, .slice At T ct, .slice Ak K ck] 31) 31 #[.int .i64 node', .int .u64 th', .bool su', .int .u64 old', .int .u64 g', .int .u64 n', .int .u64 r', .slice As' S' cs', .int .u64 a', .int .u64 b', .int .u64 f', .slice At' T' ct', .slice Ak' K' ck'], bal (bal (Below.refl _ _) (.cells #[.int .i64 node, .int .u64 th, .bool su, .int .u64 old, .int .u64 g, .int .u64 n, .int .u64 r, .slice As S cs, .int .u64 a, .int .u64 b, .int .u64 f, .slice At T ct, .slice Ak K ck] 31)) (.cells #[.int .i64 node', .int .u64 th', .bool su', .int .u64 old', .int .u64 g', .int .u64 n', .int .u64 r', .slice As' S' cs', .int .u64 a', .int .u64 b', .int .u64 f', .slice At' T' ct', .slice Ak' K' ck'] 31)⟩
  obtain ⟨g1, hg1⟩ : ∃ g1, w.heap.size + 1 = g1 := ⟨_, rfl⟩
  rw [hg1] at k0 ⊢
  clear hg1
  obtain ⟨g0, hg0⟩ : ∃ g0, w.heap.size = g0 := ⟨_, rfl⟩
  rw [hg0] at k0 ⊢
  clear hg0
  generalize (w.alloc (.cells #[.int .i64 node, .int .u64 th, .bool su, .int .u64 old, .int .u64 g, .int .u64 n, .int .u64 r, .slice As S cs, .int .u64 a, .int .u64 b, .int .u64 f, .slice At T ct, .slice Ak K ck] 31)).alloc (.cells #[.int .i64 node', .int .u64 th', .bool su', .int .u64 old', .int .u64 g', .int .u64 n', .int .u64 r', .slice As' S' cs', .int .u64 a', .int .u64 b', .int .u64 f', .slice At' T' ct', .slice Ak' K' ck'] 31) = w1 at k0 ⊢
  have K1 := Lib.hid k0
  have kb := k0.b
  have kc := k0.c
  clear k0
  go_wp2_with (first | (refine wpList_load_row (by rfl) 31 _ (by rfl) g0 (by rfl) 31 #[.int .i64 node, .int .u64 th, .bool su, .int .u64 old, .int .u64 g, .int .u64 n, .int .u64 r, .slice As S cs, .int .u64 a, .int .u64 b, .int .u64 f, .slice At T ct, .slice Ak K ck] (0, 0) _ kb Try.underlying31 (by rfl) (by kernel_rfl) ?_) | (refine wpList_load_row (by rfl) 31 _ (by rfl) g1 (by rfl) 31 #[.int .i64 node', .int .u64 th', .bool su', .int .u64 old', .int .u64 g', .int .u64 n', .int .u64 r', .slice As' S' cs', .int .u64 a', .int .u64 b', .int .u64 f', .slice At' T' ct', .slice Ak' K' ck'] (0, 0) _ kc Try.underlying31 (by rfl) (by kernel_rfl) ?_))
  refine (LS'.out _ K1.out.hB).mono ?_
  rintro e w2 ⟨rfl, hb1⟩
  have kk := K1.out.below hb1
  clear K1 kb kc hb1
  have kb := kk.b
  have kc := kk.c
  have hl0 := kb.lt
  have hl1 := kc.lt
  have K1 := Lib.hid kk
  clear kk
  obtain ⟨y0, y1, y2, y3, y4, y5, y6, y7, y8, y9, y10, y11, y12⟩ := kc.c13
  go_wp2_with (first | (refine wpList_load_row (by rfl) 31 _ (by rfl) g0 (by rfl) 31 #[.int .i64 node, .int .u64 th, .bool su, .int .u64 old, .int .u64 g, .int .u64 n, .int .u64 r, .slice As S cs, .int .u64 a, .int .u64 b, .int .u64 f, .slice At T ct, .slice Ak K ck] (0, 0) _ kb Try.underlying31 (by rfl) (by kernel_rfl) ?_) | (refine wpList_load_row (by rfl) 31 _ (by rfl) g1 (by rfl) 31 #[.int .i64 node', .int .u64 th', .bool su', .int .u64 old', .int .u64 g', .int .u64 n', .int .u64 r', .slice As' S' cs', .int .u64 a', .int .u64 b', .int .u64 f', .slice At' T' ct', .slice Ak' K' ck'] (0, 0) _ kc Try.underlying31 (by rfl) (by kernel_rfl) ?_))
  refine (LR'.out _ K1.out.hB).mono ?_
  rintro e w3 ⟨rfl, hb1⟩
  have kk := K1.out.below hb1
  clear K1 kb kc hb1 y0 y1 y2 y3 y4 y5 y6 y7 y8 y9 y10 y11 y12
  have kb := kk.b
  have kc := kk.c
  have hl0 := kb.lt
  have hl1 := kc.lt
  have K1 := Lib.hid kk
  clear kk
  go_wp2_with (first | (refine wpList_load_row (by rfl) 31 _ (by rfl) g0 (by rfl) 31 #[.int .i64 node, .int .u64 th, .bool su, .int .u64 old, .int .u64 g, .int .u64 n, .int .u64 r, .slice As S cs, .int .u64 a, .int .u64 b, .int .u64 f, .slice At T ct, .slice Ak K ck] (0, 0) _ kb Try.underlying31 (by rfl) (by kernel_rfl) ?_) | (refine wpList_load_row (by rfl) 31 _ (by rfl) g1 (by rfl) 31 #[.int .i64 node', .int .u64 th', .bool su', .int .u64 old', .int .u64 g', .int .u64 n', .int .u64 r', .slice As' S' cs', .int .u64 a', .int .u64 b', .int .u64 f', .slice At' T' ct', .slice Ak' K' ck'] (0, 0) _ kc Try.underlying31 (by rfl) (by kernel_rfl) ?_))
  refine (awake_any _).mono ?_
  rintro e w9 ⟨rfl, hb1⟩
  have kk := K1.out.below hb1
  clear K1 kb kc hb1
  have kb := kk.b
  have kc := kk.c
  have hl0 := kb.lt
  have hl1 := kc.lt
  have K1 := Lib.hid kk
  clear kk
  go_wp2_with fail
  go_ret
  exact ⟨rfl, K1.out.hB⟩

set_option maxRecDepth 100000 in
set_option maxHeartbeats 4000000 in
theorem PH3 (node th old : Int) (su : Bool) (g n r : Int) (S cs : Nat) (As : Option Addr) (a b f : Int) (T ct : Nat) (At : Option Addr) (K ck : Nat) (Ak : Option Addr) (node' th' old' : Int) (su' : Bool) (g' n' r' : Int) (S' cs' : Nat) (As' : Option Addr) (a' b' f' : Int) (T' ct' : Nat) (At' : Option Addr) (K' ck' : Nat) (Ak' : Option Addr) (bs br : Int) (w : World) (LS : ∀ w', Below w.heap.size w w' → Calls Try.prog 11 #[.agg #[.int .i64 node, .int .u64 th, .bool su, .int .u64 old, .int .u64 g, .int .u64 n, .int .u64 r, .slice As S cs, .int .u64 a, .int .u64 b, .int .u64 f, .slice At T ct, .slice Ak K ck]] w' (RetB false w')) (LR : ∀ w', Below w.heap.size w w' → Calls Try.prog 11 #[.agg #[.int .i64 node', .int .u64 th', .bool su', .int .u64 old', .int .u64 g', .int .u64 n', .int .u64 r', .slice As' S' cs', .int .u64 a', .int .u64 b', .int .u64 f', .slice At' T' ct', .slice Ak' K' ck']] w' (RetB false w')) (hb : Bool) (he : Int) (HP : ∀ w', Below w.heap.size w w' → Calls Try.prog 13 #[.agg #[.int .i64 node, .int .u64 th, .bool su, .int .u64 old, .int .u64 g, .int .u64 n, .int .u64 r, .slice As S cs, .int .u64 a, .int .u64 b, .int .u64 f, .slice At T ct, .slice Ak K ck], .int .u64 bs, .agg #[.int .i64 node', .int .u64 th', .bool su', .int .u64 old', .int .u64 g', .int .u64 n', .int .u64 r', .slice As' S' cs', .int .u64 a', .int .u64 b', .int .u64 f', .slice At' T' ct', .slice Ak' K' ck'], .int .u64 br] w' (RetH (hb, he) w')) (HQ : ∀ w', Below w.heap.size w w' → Calls Try.prog 14 #[.agg #[.int .i64 node, .int .u64 th, .bool su, .int .u64 old, .int .u64 g, .int .u64 n, .int .u64 r, .slice As S cs, .int .u64 a, .int .u64 b, .int .u64 f, .slice At T ct, .slice Ak K ck], .int .u64 bs, .agg #[.int .i64 node', .int .u64 th', .bool su', .int .u64 old', .int .u64 g', .int .u64 n', .int .u64 r', .slice As' S' cs', .int .u64 a', .int .u64 b', .int .u64 f', .slice At' T' ct', .slice Ak' K' ck'], .int .u64 br] w' (RetH (hb, he) w')) :
    Calls Try.prog 3 #[.agg #[.int .i64 node, .int .u64 th, .bool su, .int .u64 old, .int .u64 g, .int .u64 n, .int .u64 r, .slice As S cs, .int .u64 a, .int .u64 b, .int .u64 f, .slice At T ct, .slice Ak K ck], .int .u64 bs, .agg #[.int .i64 node', .int .u64 th', .bool su', .int .u64 old', .int .u64 g', .int .u64 n', .int .u64 r', .slice As' S' cs', .int .u64 a', .int .u64 b', .int .u64 f', .slice At' T' ct', .slice Ak' K' ck'], .int .u64 br] w (RetB true w) := by
  have LS' := Lib.hid LS
  clear LS
  have LR' := Lib.hid LR
  clear LR
  have HP' := Lib.hid HP
  clear HP
  have HQ' := Lib.hid HQ
  clear HQ
  go_enter Try.func3, Try.ntmps3
  go_upto_region 1 with fail
  have k0 : BK2 w w.heap.size 31 #[.int .i64 node, .int .u64 th, .bool su, .int .u64 old, .int .u64 g, .int .u64 n, .int .u64 r, .slice As S cs, .int .u64 a, .int .u64 b, .int .u64 f, .slice At T ct, .slice Ak K ck] (w.heap.size + 1) 31 #[.int .i64 node', .int .u64 th', .bool su', .int .u64 old', .int .u64 g', .int .u64 n', .int .u64 r', .slice As' S' cs', .int .u64 a', .int .u64 b', .int .u64 f', .slice At' T' ct', .slice Ak' K' ck'] _ := ⟨(Blk.new w 31 #[.int .i64 node, .int .u64 th, .bool su, .int .u64 old, .int .u64 g, .int .u64 n, .int .u64 r, .slice As S cs, .int .u64 a, .int .u64 b, .int .u64 f, .slice At T ct, .slice Ak K ck]).alloc (.cells #[.int .i64 node', .int .u64 th', .bool su', .int .u64 old', .int .u64 g', .int .u64 n', .int .u64 r', .slice As' S' cs', .int .u64 a', .int .u64 b', .int .u64 f', .slice At' T' ct', .slice Ak' K' ck'] 31), Blk.new1 w (.cells #[.int .i64 node, .int .u64 th, .bool su, .int .u64 old, .int .u64 g, .int .u64 n, .int .u64 r, .slice As S cs, .int .u64 a, .int .u64 b, .int .u64 f, .slice At T ct, .slice Ak K ck] 31) 31 #[.int .i64 node', .int .u64 th', .bool su', .int .u64 old', .int .u64 g', .int .u64 n', .int .u64 r', .slice As' S' cs', .int .u64 a', .int .u64 b', .int .u64 f', .slice At' T' ct', .slice Ak' K' ck'], bal (bal (Below.refl _ _) (.cells #[.int .i64 node, .int .u64 th, .bool su, .int .u64 old, .int .u64 g, .int .u64 n, .int .u64 r, .slice As S cs, .int .u64 a, .int .u64 b, .int .u64 f, .slice At T ct, .slice Ak K ck] 31)) (.cells #[.int .i64 node', .int .u64 th', .bool su', .int .u64 old', .int .u64 g', .int .u64 n', .int .u64 r', .slice As' S' cs', .int .u64 a', .int .u64 b', .int .u64 f', .slice At' T' ct', .slice Ak' K' ck'] 31)⟩
  obtain ⟨g1, hg1⟩ : ∃ g1, w.heap.size + 1 = g1 := ⟨_, rfl⟩
  rw [hg1] at k0 ⊢
  clear hg1
  obtain ⟨g0, hg0⟩ : ∃ g0, w.heap.size = g0 := ⟨_, rfl⟩
  rw [hg0] at k0 ⊢
  clear hg0
  generalize (w.alloc (.cells #[.int .i64 node, .int .u64 th, .bool su, .int .u64 old, .int .u64 g, .int .u64 n, .int .u64 r, .slice As S cs, .int .u64 a, .int .u64 b, .int .u64 f, .slice At T ct, .slice Ak K ck] 31)).alloc (.cells #[.int .i64 node', .int .u64 th', .bool su', .int .u64 old', .int .u64 g', .int .u64 n', .int .u64 r', .slice As' S' cs', .int .u64 a', .int .u64 b', .int .u64 f', .slice At' T' ct', .slice Ak' K' ck'] 31) = w1 at k0 ⊢
  have K1 := Lib.hid k0
  have kb := k0.b
  have kc := k0.c
  clear k0
  go_wp2_with (first | (refine wpList_load_row (by rfl) 31 _ (by rfl) g0 (by rfl) 31 #[.int .i64 node, .int .u64 th, .bool su, .int .u64 old, .int .u64 g, .int .u64 n, .int .u64 r, .slice As S cs, .int .u64 a, .int .u64 b, .int .u64 f, .slice At T ct, .slice Ak K ck] (0, 0) _ kb Try.underlying31 (by rfl) (by kernel_rfl) ?_) | (refine wpList_load_row (by rfl) 31 _ (by rfl) g1 (by rfl) 31 #[.int .i64 node', .int .u64 th', .bool su', .int .u64 old', .int .u64 g', .int .u64 n', .int .u64 r', .slice As' S' cs', .int .u64 a', .int .u64 b', .int .u64 f', .slice At' T' ct', .slice Ak' K' ck'] (0, 0) _ kc Try.underlying31 (by rfl) (by kernel_rfl) ?_))
  refine (LS'.out _ K1.out.hB).mono ?_
  rintro e w2 ⟨rfl, hb1⟩
  have kk := K1.out.below hb1
  clear K1 kb kc hb1
  have kb := kk.b
  have kc := kk.c
  have hl0 := kb.lt
  have hl1 := kc.lt
  have K1 := Lib.hid kk
  clear kk
  obtain ⟨y0, y1, y2, y3, y4, y5, y6, y7, y8, y9, y10, y11, y12⟩ := kc.c13
  go_wp2_with (first | (refine wpList_load_row (by rfl) 31 _ (by rfl) g0 (by rfl) 31 #[.int .i64 node, .int .u64 th, .bool su, .int .u64 old, .int .u64 g, .int .u64 n, .int .u64 r, .slice As S cs, .int .u64 a, .int .u64 b, .int .u64 f, .slice At T ct, .slice Ak K ck] (0, 0) _ kb Try.underlying31 (by rfl) (by kernel_rfl) ?_) | (refine wpList_load_row (by rfl) 31 _ (by rfl) g1 (by rfl) 31 #[.int .i64 node', .int .u64 th', .bool su', .int .u64 old', .int .u64 g', .int .u64 n', .int .u64 r', .slice As' S' cs', .int .u64 a', .int .u64 b', .int .u64 f', .slice At' T' ct', .slice Ak' K' ck'] (0, 0) _ kc Try.underlying31 (by rfl) (by kernel_rfl) ?_))
  refine (LR'.out _ K1.out.hB).mono ?_
  rintro e w3 ⟨rfl, hb1⟩
  have kk := K1.out.below hb1
  clear K1 kb kc hb1 y0 y1 y2 y3 y4 y5 y6 y7 y8 y9 y10 y11 y12
  have kb := kk.b
  have kc := kk.c
  have hl0 := kb.lt
  have hl1 := kc.lt
  have K1 := Lib.hid kk
  clear kk
  go_wp2_with (first | (refine wpList_load_row (by rfl) 31 _ (by rfl) g0 (by rfl) 31 #[.int .i64 node, .int .u64 th, .bool su, .int .u64 old, .int .u64 g, .int .u64 n, .int .u64 r, .slice As S cs, .int .u64 a, .int .u64 b, .int .u64 f, .slice At T ct, .slice Ak K ck] (0, 0) _ kb Try.underlying31 (by rfl) (by kernel_rfl) ?_) | (refine wpList_load_row (by rfl) 31 _ (by rfl) g1 (by rfl) 31 #[.int .i64 node', .int .u64 th', .bool su', .int .u64 old', .int .u64 g', .int .u64 n', .int .u64 r', .slice As' S' cs', .int .u64 a', .int .u64 b', .int .u64 f', .slice At' T' ct', .slice Ak' K' ck'] (0, 0) _ kc Try.underlying31 (by rfl) (by kernel_rfl) ?_))
  refine (HP'.out _ K1.out.hB).mono ?_
  rintro e w4 ⟨rfl, hb1⟩
  have kk := K1.out.below hb1
  clear K1 kb kc hb1
  have kb := kk.b
  have kc := kk.c
  have hl0 := kb.lt
  have hl1 := kc.lt
  have K1 := Lib.hid kk
  clear kk
  go_wp2_with (first | (refine wpList_load_row (by rfl) 31 _ (by rfl) g0 (by rfl) 31 #[.int .i64 node, .int .u64 th, .bool su, .int .u64 old, .int .u64 g, .int .u64 n, .int .u64 r, .slice As S cs, .int .u64 a, .int .u64 b, .int .u64 f, .slice At T ct, .slice Ak K ck] (0, 0) _ kb Try.underlying31 (by rfl) (by kernel_rfl) ?_) | (refine wpList_load_row (by rfl) 31 _ (by rfl) g1 (by rfl) 31 #[.int .i64 node', .int .u64 th', .bool su', .int .u64 old', .int .u64 g', .int .u64 n', .int .u64 r', .slice As' S' cs', .int .u64 a', .int .u64 b', .int .u64 f', .slice At' T' ct', .slice Ak' K' ck'] (0, 0) _ kc Try.underlying31 (by rfl) (by kernel_rfl) ?_))
  refine (HQ'.out _ K1.out.hB).mono ?_
  rintro e w5 ⟨rfl, hb1⟩
  have kk := K1.out.below hb1
  clear K1 kb kc hb1
  have kb := kk.b
  have kc := kk.c
  have hl0 := kb.lt
  have hl1 := kc.lt
  have K1 := Lib.hid kk
  clear kk
  go_wp2_with (first | (refine wpList_load_row (by rfl) 31 _ (by rfl) g0 (by rfl) 31 #[.int .i64 node, .int .u64 th, .bool su, .int .u64 old, .int .u64 g, .int .u64 n, .int .u64 r, .slice As S cs, .int .u64 a, .int .u64 b, .int .u64 f, .slice At T ct, .slice Ak K ck] (0, 0) _ kb Try.underlying31 (by rfl) (by kernel_rfl) ?_) | (refine wpList_load_row (by rfl) 31 _ (by rfl) g1 (by rfl) 31 #[.int .i64 node', .int .u64 th', .bool su', .int .u64 old', .int .u64 g', .int .u64 n', .int .u64 r', .slice As' S' cs', .int .u64 a', .int .u64 b', .int .u64 f', .slice At' T' ct', .slice Ak' K' ck'] (0, 0) _ kc Try.underlying31 (by rfl) (by kernel_rfl) ?_))
  refine (awake_any _).mono ?_
  rintro e w9 ⟨rfl, hb1⟩
  have kk := K1.out.below hb1
  clear K1 kb kc hb1
  have kb := kk.b
  have kc := kk.c
  have hl0 := kb.lt
  have hl1 := kc.lt
  have K1 := Lib.hid kk
  clear kk
  go_wp2_with fail
  go_ret
  exact ⟨rfl, K1.out.hB⟩

theorem PeerHolds_t (s r : Pr) (hws : WfP s) (hwr : WfP r) (bs br : Int) (Vs Vr : Value) (w : World) (hs : PrAt w Vs s) (hr : PrAt w Vr r) :
    Calls Try.prog 3 #[Vs, .int .u64 bs, Vr, .int .u64 br] w (RetB true w) := by
  have LS := fun w' (hb : Below w.heap.size w w') => large_any s Vs w' (hs.below hb)
  have LR := fun w' (hb : Below w.heap.size w w') => large_any r Vr w' (hr.below hb)
  have HP := fun w' (hb : Below w.heap.size w w') => Holds_any s r hws hwr bs br Vs Vr w' (hs.below hb) (hr.below hb)
  have HQ := fun w' (hb : Below w.heap.size w w') => rHolds_any s r hws hwr bs br Vs Vr w' (hs.below hb) (hr.below hb)
  obtain ⟨vs, vt, vk, rfl, hs1, hs2, hs3⟩ := hs
  obtain ⟨As, cs, rfl⟩ := hs1.form
  obtain ⟨Bs, ds, rfl⟩ := hs2.form
  obtain ⟨Cs, es, rfl⟩ := hs3.form
  obtain ⟨us, ut, uk, rfl, hr1, hr2, hr3⟩ := hr
  obtain ⟨Ar, cr, rfl⟩ := hr1.form
  obtain ⟨Br, dr, rfl⟩ := hr2.form
  obtain ⟨Cr, er, rfl⟩ := hr3.form
  generalize decide (110 < s.s.sl.length ∨ 60 < s.r.tk.length ∨ 60 < s.r.kp.length) = ls at LS
  generalize decide (110 < r.s.sl.length ∨ 60 < r.r.tk.length ∨ 60 < r.r.kp.length) = lr at LR
  cases ls
  · cases lr
    · exact PH3 _ _ _ _ _ _ _ _ _ _ _ _ _ _ _ _ _ _ _ _ _ _ _ _ _ _ _ _ _ _ _ _ _ _ _ _ _ _ bs br w LS LR _ _ HP HQ
    · exact PH2 _ _ _ _ _ _ _ _ _ _ _ _ _ _ _ _ _ _ _ _ _ _ _ _ _ _ _ _ _ _ _ _ _ _ _ _ _ _ bs br w LS LR
  · exact PH1 _ _ _ _ _ _ _ _ _ _ _ _ _ _ _ _ _ _ _ _ _ _ _ _ _ _ _ _ _ _ _ _ _ _ _ _ _ _ bs br w LS
end Go.Proofs.Ytfgkkflbpfocjaa

