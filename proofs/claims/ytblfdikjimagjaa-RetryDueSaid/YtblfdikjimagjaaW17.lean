/- Contracts on the way to this seat's statements; what each theorem says stands in its type. -/
import Derived.Test.YtblfdikjimagjaaW16
namespace Go.Proofs.Ytblfdikjimagjaa
set_option linter.unusedVariables false
open Go.RowKit

theorem due_plain {f m S : Int} {j : Int} (ok : Okc f m) (s1 : 0 ≤ S) (s2 : S ≤ 1073741824) (j0 : 0 ≤ j) (j1 : j ≤ 1000) {p : Nat} (hp : sm m f p ≤ j) (hp' : j < sm m f (p + 1)) :
    cntV f m S (S + j) = p ∧ cntE f m S (S + j) = 0 ∧ dueV f m S (S + j) = (decide (0 < p) && decide (sm m f p = j)) ∧ nextV f m S (S + j) = S + sm m f (p + 1) ∧ nextE f m S (S + j) = 0 := by
  have hA : Asked f m S (S + j) := ⟨ok, ⟨by omega, by omega⟩, ⟨by omega, by omega⟩, by omega⟩
  have ec : cn m f (S + j - S) = p := by
    rw [show S + j - S = j from by omega]
    exact (fits_cn ok.1 ok.2.2.1 j0 ⟨hp, hp'⟩).symm
  have hpj := (sm_bd ok.1 ok.2.2.1 p).1
  have hw := wv_bd ok.1 ok.2.2.1 p
  have m4 := ok.2.2.2
  have hs : sm m f (p + 1) = sm m f p + wv m f p := rfl
  have hT : TimeOk f m S (p : Int) := ⟨ok, ⟨by omega, by omega⟩, ⟨by omega, by omega⟩, by
    rw [Int.toNat_natCast]; constructor <;> omega⟩
  have tv : timeV f m S (p : Int) = S + sm m f (p + 1) := by rw [show timeV f m S (p : Int) = _ from if_pos hT, Int.toNat_natCast]
  have te : timeE f m S (p : Int) = 0 := if_pos hT
  refine ⟨by rw [show cntV f m S (S + j) = _ from if_pos hA, ec], if_pos hA, ?_, by rw [show nextV f m S (S + j) = _ from if_pos hA, ec, tv], by rw [show nextE f m S (S + j) = _ from if_pos hA, ec, te]; rfl⟩
  rw [show dueV f m S (S + j) = _ from if_pos hA, ec, show S + j - S = j from by omega]

set_option maxRecDepth 100000 in
set_option maxHeartbeats 4000000 in
theorem RetryDue_walk (a b c : Int) (w : World) : Calls Try.prog 8 #[.int .i64 a, .int .i64 b, .int .i64 c] w (RetT w) := by
  have a1 := Int.emod_nonneg a (show (9 : Int) ≠ 0 by omega)
  have a2 := Int.emod_lt_of_pos a (show (0 : Int) < 9 by omega)
  have b1 := Int.emod_nonneg b (show (40 : Int) ≠ 0 by omega)
  have b2 := Int.emod_lt_of_pos b (show (0 : Int) < 40 by omega)
  have c1 := Int.emod_nonneg c (show (1073741824 : Int) ≠ 0 by omega)
  have c2 := Int.emod_lt_of_pos c (show (0 : Int) < 1073741824 by omega)
  go_enter Try.func8, Try.ntmps8
  go_wp2_with fail
  refine (RetryKnown_walk _).mono ?_
  rintro e w1 ⟨rfl, hb1⟩
  go_wp2_with fail
  refine (Mod_any _ _ _ (by omega) (by omega)).mono ?_
  rintro e w' ⟨rfl, rfl⟩
  generalize a % 9 = ra at *
  go_wp2_with fail
  generalize hF : 1 + ra = F at *
  have f1 : 1 ≤ F := by omega
  have f2 : F ≤ 9 := by omega
  clear hF a1 a2
  refine (Mod_any _ _ _ (by omega) (by omega)).mono ?_
  rintro e w' ⟨rfl, rfl⟩
  generalize b % 40 = rb at *
  go_wp2_with fail
  generalize hM : F + rb = M at *
  have m1 : F ≤ M := by omega
  have m2 : M ≤ 48 := by omega
  clear hM b1 b2
  refine (Mod_any _ _ _ (by omega) (by omega)).mono ?_
  rintro e w' ⟨rfl, rfl⟩
  generalize c % 1073741824 = S at *
  have ok : Okc F M := ⟨f1, by omega, m1, by omega⟩
  have OK := Lib.hid ok
  have st := due_plain ok c1 (by omega) (j := 0) (by omega) (by omega) (p := 0) (by simp [sm]) (by simp [sm, wv]; omega)
  rw [show S + 0 = S from by omega] at st
  have ST := Lib.hid st
  clear ok st
  go_wp2_with fail
  refine (Next_any _ _ _ _ _).mono ?_
  rintro e w2 ⟨rfl, hb2⟩
  rw [ST.out.2.2.2.1, ST.out.2.2.2.2]
  clear ST
  go_wp2_with fail
  go_loopw [10, 11, 12, 13] (fun n x e i wr => ∃ (j p : Nat), j ≤ 80 ∧ i = .int .i64 (S + j) ∧ n = .int .i64 p ∧ x = .int .i64 (S + sm M F (p + 1)) ∧ (p = 0 ∨ sm M F p < j) ∧ (j : Int) ≤ sm M F (p + 1) ∧ Below w.heap.size w wr) (fun _ _ _ i _ => (S + 80 - intOf i).toNat)
  case atStart => exact ⟨0, 0, by omega, by simp, rfl, rfl, .inl rfl, by simp [sm, wv]; omega, (by repeat (first | exact Below.refl _ _ | refine Below.drew ?_ | refine below_drewN ?_ _ | refine bal ?_ _ | refine bnext ?_ (by assumption) | refine bset ?_ (by simp) _))⟩
  case round =>
    obtain ⟨j, p, hj, rfl, rfl, rfl, hpj, hjp, hB⟩ := hrel
    have HP := Lib.hid hpj
    clear hpj
    have hw := wv_bd f1 m1 p
    have hw1 := wv_bd f1 m1 (p + 1)
    have hsp := (sm_bd f1 m1 p).1
    have hs1 : sm M F (p + 1) = sm M F p + wv M F p := rfl
    have hs2 : sm M F (p + 1 + 1) = sm M F (p + 1) + wv M F (p + 1) := rfl
    have hp80 : (p : Int) ≤ 80 ∧ sm M F p ≤ j := by
      rcases HP.out with h | h
      · subst h; simp [sm]
      · omega
    have q1 := hp80.1
    have q2 := hp80.2
    clear hp80
    have HS1 := Lib.hid hs1
    have HS2 := Lib.hid hs2
    have l1 : sm M F (p + 1) ≤ 200 := by omega
    have l2 : 0 ≤ sm M F (p + 1) := by omega
    have l3 : sm M F (p + 1) < sm M F (p + 1 + 1) := by omega
    have l4 : sm M F (p + 1 + 1) ≤ 300 := by omega
    clear hs1 hs2
    by_cases hlt : (j : Int) < 80
    · by_cases hd : (j : Int) = sm M F (p + 1)
      · have D := due_plain (j := j) OK.out c1 (by omega) (by omega) (by omega) (p := p + 1) (by omega) (by omega)
        have dt : dueV F M S (S + j) = true := by rw [D.2.2.1]; simp [hd]
        have cv : cntV F M S (S + j) = (p : Int) + 1 := by rw [D.1]; omega
        have DH := Lib.hid D
        have DT := Lib.hid dt
        have CV := Lib.hid cv
        have HD := Lib.hid hd
        have t1 : (S + (j : Int) == S + sm M F (p + 1)) = true := by rw [beq_iff_eq]; omega
        clear D dt cv hd
        go_wp2_with fail
        refine (Count_any _ _ _ _ _).mono ?_
        rintro e w3 ⟨rfl, hb3⟩
        rw [CV.out, DH.out.2.1]
        go_wp2_with fail
        refine (Due_any _ _ _ _ _).mono ?_
        rintro e w4 ⟨rfl, hb4⟩
        rw [DT.out, DH.out.2.1]
        have l5 : S + (j : Int) < S + sm M F (p + 1 + 1) := by have := HD.out; omega
        go_wp2_with fail
        refine (Next_any _ _ _ _ _).mono ?_
        rintro e w5 ⟨rfl, hb5⟩
        rw [DH.out.2.2.2.1, DH.out.2.2.2.2]
        go_wp2_with fail
        go_roundw
        case rel => exact ⟨j + 1, p + 1, by omega, by go_num, by go_num, rfl, .inr (by have := HD.out; omega), by have := HD.out; omega, (by repeat (first | exact Below.refl _ _ | refine Below.drew ?_ | refine below_drewN ?_ _ | refine bal ?_ _ | refine bnext ?_ (by assumption) | refine bset ?_ (by simp) _))⟩
        case measure => simp [intOf]; omega
      · have D := due_plain (j := j) OK.out c1 (by omega) (by omega) (by omega) (p := p) q2 (by omega)
        have dt : dueV F M S (S + j) = false := by
          rw [D.2.2.1]
          rcases HP.out with h | h
          · simp [h]
          · simp; omega
        have DH := Lib.hid D
        have DT := Lib.hid dt
        have t1 : (S + (j : Int) == S + sm M F (p + 1)) = false := by rw [beq_eq_false_iff_ne]; omega
        have HD := Lib.hid hd
        clear D dt hd
        go_wp2_with fail
        refine (Count_any _ _ _ _ _).mono ?_
        rintro e w3 ⟨rfl, hb3⟩
        rw [DH.out.1, DH.out.2.1]
        go_wp2_with fail
        refine (Due_any _ _ _ _ _).mono ?_
        rintro e w4 ⟨rfl, hb4⟩
        rw [DT.out, DH.out.2.1]
        go_wp2_with fail
        go_roundw
        case rel => exact ⟨j + 1, p, by omega, by go_num, rfl, rfl, (by rcases HP.out with h | h; · exact .inl h
                                                                        · exact .inr (by omega)), by have := HD.out; omega, (by repeat (first | exact Below.refl _ _ | refine Below.drew ?_ | refine below_drewN ?_ _ | refine bal ?_ _ | refine bnext ?_ (by assumption) | refine bset ?_ (by simp) _))⟩
        case measure => simp [intOf]; omega
    · go_wp2_with fail
      go_ret
      exact ⟨rfl, (by repeat (first | exact Below.refl _ _ | refine Below.drew ?_ | refine below_drewN ?_ _ | refine bal ?_ _ | refine bnext ?_ (by assumption) | refine bset ?_ (by simp) _))⟩
