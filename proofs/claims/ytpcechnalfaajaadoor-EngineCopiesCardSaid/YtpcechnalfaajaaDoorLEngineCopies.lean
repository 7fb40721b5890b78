/- EngineCopies returns true whatever requests it is given: a copy goes its own way, and accounts are told in the order of their numbers. Conditions: the laid package variables of sha and history hold what their own initialisers give them. -/
import Derived.Test.YtpcechnalfaajaaDoorP8
import Derived.Test.YtpcechnalfaajaaDoorP9
import Derived.Test.YtpcechnalfaajaaDoorTie
import Derived.Test.YtpcechnalfaajaaDoorCards
import Derived.SevenTiedAt
/- EngineSteps' plain law. -/
namespace Go.Proofs.YtpcechnalfaajaaDoor
open Go Go.Proofs

def stT (n : Num) : Transfer := ⟨1, 1, 2, n, 0, 5, 1, 2, 0, 0, 0⟩
def stS (id pid part : Num) (void : Bool) : Transfer := ⟨id, 0, 0, part, pid, 0, 0, if void then 8 else 4, 0, 0, 0⟩
def stE1 (n : Num) (w1 w2 : Int) (h1 h2 : Hash) (s : Row) : Eng :=
  Two ⟨1, 1, 0, n, 0, 0, 0, 1, w1, h1⟩ ⟨2, 1, 0, 0, 0, n, 0, 2, w2, h2⟩ [{ stT n with time := 3, state := 1 }] [⟨1, 3, 2, n, n, 0, 0, 0⟩] [s] 3 0
theorem steps_one (n : Num) : ∃ w1 w2 h1 h2 s, do1 two0 (stT n) = (stE1 n w1 w2 h1 h2 s, 0) := by
  obtain ⟨z1, z2, z3, z4⟩ := addN_zero n
  have a1 : addN [acc1.dp, n] = n := z1
  have a2 : addN [acc2.cp, n] = n := z1
  have hf := first_pend acc1 acc2 [] [] [] 2 0 (stT n) n (by kernel_rfl) (by kernel_rfl) z3 z3 (by rw [a1]; exact z4) (by rw [a2]; exact z4) (within0 (by kernel_rfl) (by kernel_rfl)) (within0 (by kernel_rfl) (by kernel_rfl))
  rw [a1, a2] at hf
  have c1 : firC (stT n) 64 { acc1 with dp := n } = { acc1 with dp := n } := by kernel_rfl
  have c2 : firC (stT n) 128 { acc2 with cp := n } = { acc2 with cp := n } := by kernel_rfl
  rw [c1, c2, add_two] at hf
  have hm : two0.makeTransfer (stT n) = two0.first (stT n) 0 1 := by kernel_rfl
  rw [do1_eq (by kernel_rfl), hm, show two0.first (stT n) 0 1 = _ from hf, if_pos rfl]
  exact ⟨1, 1, rootN ([rowOf 1 3 (bclr (stT n).flags 1) n { acc1 with dp := n }].map leafR), rootN ([rowOf 1 3 (bclr (stT n).flags 1) n { acc2 with cp := n }].map leafR), rowOf 1 3 (bclr (stT n).flags 1) n { acc2 with cp := n }, by kernel_rfl⟩
/-- What a tick at 5 does. -/
def stE2 (n : Num) (w1 w2 : Int) (h1 h2 : Hash) (r2 s s2 : Row) : Eng :=
  Two ⟨1, 1, 0, 0, 0, 0, 0, 1, w1, h1⟩ ⟨2, 1, 0, 0, 0, 0, 0, 2, w2, h2⟩ [{ stT n with time := 3, state := 4 }] [⟨1, 3, 2, n, n, 0, 0, 0⟩, r2] [s, s2] 4 5
theorem steps_tick (n : Num) (w1 w2 : Int) (h1 h2 : Hash) (s : Row) : ∃ v1 v2 g1 g2 r2 s2, (stE1 n w1 w2 h1 h2 s).tick 5 = stE2 n v1 v2 g1 g2 r2 s s2 := by
  have hz := subN_self n
  have hr := release_two ⟨1, 1, 0, n, 0, 0, 0, 1, w1, h1⟩ ⟨2, 1, 0, 0, 0, n, 0, 2, w2, h2⟩ [{ stT n with time := 3, state := 1 }] [⟨1, 3, 2, n, n, 0, 0, 0⟩] [s] 3 5 { stT n with time := 3, state := 1 } n true
  have f1 : ¬ (true = true ∧ band ({ stT n with time := 3, state := 1 } : Transfer).flags 64 ≠ 0) := fun h => h.2 (by kernel_rfl)
  have f2 : ¬ (true = true ∧ band ({ stT n with time := 3, state := 1 } : Transfer).flags 128 ≠ 0) := fun h => h.2 (by kernel_rfl)
  rw [if_neg f1, if_neg f2, hz] at hr
  have ht : (stE1 n w1 w2 h1 h2 s).tick 5 = ({ ((Two ⟨1, 1, 0, n, 0, 0, 0, 1, w1, h1⟩ ⟨2, 1, 0, 0, 0, n, 0, 2, w2, h2⟩ [{ stT n with time := 3, state := 1 }] [⟨1, 3, 2, n, n, 0, 0, 0⟩] [s] 3 5).release { stT n with time := 3, state := 1 } n 0 1 true).setState 0 4 with time := 4 } : Eng).row 1 (-1) n [0, 1] := by kernel_rfl
  rw [ht, hr]
  exact ⟨2, _, rootN (([⟨1, 3, 2, n, n, 0, 0, 0⟩, rowOf 1 4 (-1) n ⟨1, 1, 0, 0, 0, 0, 0, 1, w1, h1⟩] : List Row).map leafR), rootN (([s, rowOf 1 4 (-1) n ⟨2, 1, 0, 0, 0, 0, 0, 2, w2, h2⟩] : List Row).map leafR), rowOf 1 4 (-1) n ⟨1, 1, 0, 0, 0, 0, 0, 1, w1, h1⟩, rowOf 1 4 (-1) n ⟨2, 1, 0, 0, 0, 0, 0, 2, w2, h2⟩, rfl⟩
def stWant (tick void : Bool) (n part : Num) : Int := if tick = true then 23 else if part ≠ 0 ∧ (n.toNat < part.toNat ∨ (part.toNat < n.toNat ∧ void = true)) then 24 else 0
def stPre (tick : Bool) (n : Num) : Eng := if tick = true then (do1 two0 (stT n)).1.tick 5 else (do1 two0 (stT n)).1
def stPosted (tick void : Bool) (n part : Num) : Num := if stWant tick void n part = 0 ∧ void = false then (if part = 0 then n else part) else 0
def stHeld (tick void : Bool) (n part : Num) : Num := if stWant tick void n part = 24 then n else 0
theorem two_account1 {x y : Account} {T : List Transfer} {ra rb : List Row} {tm now : Int} (hx : x.id = 1) : (Two x y T ra rb tm now).account 1 = some x := by
  unfold Eng.account
  have : posN 1 (Two x y T ra rb tm now).ids = some 0 := if_pos hx
  rw [this]; rfl
theorem two_account2 {x y : Account} {T : List Transfer} {ra rb : List Row} {tm now : Int} (hx : x.id = 1) (hy : y.id = 2) : (Two x y T ra rb tm now).account 2 = some y := by
  unfold Eng.account
  have : posN 2 (Two x y T ra rb tm now).ids = some 1 := by
    show (if x.id = 2 then some 0 else (if y.id = 2 then some 0 else none).map (· + 1)) = some 1
    rw [if_neg (by rw [hx]; decide), if_pos hy]; rfl
  rw [this]; rfl
theorem do1_code {e : Eng} {t : Transfer} {c : Int} (h : band t.flags 1 = 0) (hc : (e.makeTransfer t).2 = c) : (do1 e t).2 = c := by
  rw [do1_eq h, hc]
  split
  · rename_i h; exact h.symm
  · rfl
theorem steps_end (E : Eng) (void : Bool) (h1 : (E.makeTransfer (stS 3 1 0 void)).2 = 22) (h2 : (E.makeTransfer (stS 3 2 0 void)).2 = 21) : (do1 E (stS 3 1 0 void)).2 = 22 ∧ (do1 (do1 E (stS 3 1 0 void)).1 (stS 3 2 0 void)).2 = 21 := by
  have hv1 : ∀ id pid p, band (stS id pid p void).flags 1 = 0 := fun id pid p => by cases void <;> kernel_rfl
  have e1 := do1_bad (hv1 3 1 0) h1 (by decide)
  rw [e1]
  exact ⟨rfl, do1_code (hv1 3 2 0) h2⟩
theorem steps_law (tick void : Bool) (n part : Num) : (do1 two0 (stT n)).2 = 0 ∧ (do1 (stPre tick n) (stS 2 1 part void)).2 = stWant tick void n part ∧
    (∃ a, (do1 (stPre tick n) (stS 2 1 part void)).1.account 1 = some a ∧ a.dq = stPosted tick void n part ∧ a.dp = stHeld tick void n part) ∧
    (∃ a, (do1 (stPre tick n) (stS 2 1 part void)).1.account 2 = some a ∧ a.cq = stPosted tick void n part ∧ a.cp = stHeld tick void n part) ∧
    (stWant tick void n part = 0 → (do1 (do1 (stPre tick n) (stS 2 1 part void)).1 (stS 3 1 0 void)).2 = 22 ∧ (do1 (do1 (do1 (stPre tick n) (stS 2 1 part void)).1 (stS 3 1 0 void)).1 (stS 3 2 0 void)).2 = 21) ∧
    (stWant tick void n part ≠ 0 → (do1 (do1 (stPre tick n) (stS 2 1 part void)).1 (stS 3 9 0 void)).2 = 20) := by
  obtain ⟨w1, w2, h1, h2, s, e1⟩ := steps_one n
  have hv1 : ∀ id pid p, band (stS id pid p void).flags 1 = 0 := fun id pid p => by cases void <;> kernel_rfl
  refine ⟨by rw [e1], ?_⟩
  cases tick with
  | true =>
    obtain ⟨v1, v2, g1, g2, r2, s2, e2⟩ := steps_tick n w1 w2 h1 h2 s
    have hpre : stPre true n = stE2 n v1 v2 g1 g2 r2 s s2 := by unfold stPre; rw [if_pos rfl, e1]; exact e2
    have hw : stWant true void n part = 23 := if_pos rfl
    have hp : stPosted true void n part = 0 := if_neg (by rw [hw]; intro h; cases h.1)
    have hh : stHeld true void n part = 0 := if_neg (by rw [hw]; decide)
    rw [hpre, hw, hp, hh]
    have e3 : do1 (stE2 n v1 v2 g1 g2 r2 s s2) (stS 2 1 part void) = (stE2 n v1 v2 g1 g2 r2 s s2, 23) := do1_bad (hv1 _ _ _) (by cases void <;> kernel_rfl) (by decide)
    rw [e3]
    exact ⟨rfl, ⟨⟨1, 1, 0, 0, 0, 0, 0, 1, v1, g1⟩, by kernel_rfl, rfl, rfl⟩, ⟨⟨2, 1, 0, 0, 0, 0, 0, 2, v2, g2⟩, by kernel_rfl, rfl, rfl⟩, fun h => absurd h (by decide), fun _ => do1_code (hv1 _ _ _) (by cases void <;> kernel_rfl)⟩
  | false =>
    have hpre : stPre false n = stE1 n w1 w2 h1 h2 s := by unfold stPre; rw [if_neg (by decide), e1]
    rw [hpre]
    have hm : (stE1 n w1 w2 h1 h2 s).makeTransfer (stS 2 1 part void) = (stE1 n w1 w2 h1 h2 s).second (stS 2 1 part void) := by cases void <;> kernel_rfl
    have hs := second_some (e := stE1 n w1 w2 h1 h2 s) (t := stS 2 1 part void) (p := { stT n with time := 3, state := 1 }) (k := 0) (held := n) (by kernel_rfl) (by kernel_rfl) (by kernel_rfl)
    have hN : secN (stS 2 1 part void) n = if part = 0 then n else part := rfl
    have hb8 : band (stS 2 1 part void).flags 8 ≠ 0 ↔ void = true := by cases void with
      | true => exact ⟨fun _ => rfl, fun _ => of_decide_eq_true (by kernel_rfl)⟩
      | false => exact ⟨fun h => absurd (show band (stS 2 1 part false).flags 8 = 0 by kernel_rfl) h, fun h => by cases h⟩
    have hE : secE (stS 2 1 part void) { stT n with time := 3, state := 1 } n = stWant false void n part := by
      have h24 : (n.toNat < (secN (stS 2 1 part void) n).toNat ∨ ((secN (stS 2 1 part void) n).toNat < n.toNat ∧ band (stS 2 1 part void).flags 8 ≠ 0)) ↔ (part ≠ 0 ∧ (n.toNat < part.toNat ∨ (part.toNat < n.toNat ∧ void = true))) := by
        rw [hN, hb8]
        by_cases h0 : part = 0
        · rw [if_pos h0]
          constructor
          · intro h; exfalso; rcases h with h | h <;> omega
          · intro h; exact absurd h0 h.1
        · rw [if_neg h0]
          exact ⟨fun h => ⟨h0, h⟩, fun h => h.2⟩
      unfold secE stWant
      rw [if_neg (show ¬ band (stT n).flags 2 = 0 from fun h => absurd (h.symm.trans (show band (stT n).flags 2 = 2 by kernel_rfl)) (by decide)), if_neg (show ¬ ((1 : Int) = 2 ∨ (1 : Int) = 3) by decide), if_neg (show ¬ (1 : Int) = 4 by decide), if_neg (by rw [show mis (stS 2 1 part void) { stT n with time := 3, state := 1 } = false from by cases void <;> kernel_rfl]; simp), if_neg (by decide : ¬ false = true)]
      simp only [h24]
    rw [hE] at hs
    by_cases hc : part ≠ 0 ∧ (n.toNat < part.toNat ∨ (part.toNat < n.toNat ∧ void = true))
    · have hw : stWant false void n part = 24 := (if_neg (by decide)).trans (if_pos hc)
      have hp : stPosted false void n part = 0 := if_neg (by rw [hw]; intro h; cases h.1)
      have hh : stHeld false void n part = n := if_pos hw
      rw [hw, if_pos (by decide)] at hs
      rw [hw, hp, hh]
      have e3 : do1 (stE1 n w1 w2 h1 h2 s) (stS 2 1 part void) = (stE1 n w1 w2 h1 h2 s, 24) := do1_bad (hv1 _ _ _) (by rw [hm, hs]) (by decide)
      rw [e3]
      exact ⟨rfl, ⟨⟨1, 1, 0, n, 0, 0, 0, 1, w1, h1⟩, by kernel_rfl, rfl, rfl⟩, ⟨⟨2, 1, 0, 0, 0, n, 0, 2, w2, h2⟩, by kernel_rfl, rfl, rfl⟩, fun h => absurd h (by decide), fun _ => do1_code (hv1 _ _ _) (by cases void <;> kernel_rfl)⟩
    · have hw : stWant false void n part = 0 := (if_neg (by decide)).trans (if_neg hc)
      have hh : stHeld false void n part = 0 := if_neg (by rw [hw]; decide)
      rw [hw, if_neg (by simp)] at hs
      have hd : (posN ({ stT n with time := 3, state := 1 } : Transfer).debit (stE1 n w1 w2 h1 h2 s).ids).getD 0 = 0 := by kernel_rfl
      have hcr : (posN ({ stT n with time := 3, state := 1 } : Transfer).credit (stE1 n w1 w2 h1 h2 s).ids).getD 0 = 1 := by kernel_rfl
      rw [hd, hcr, hN] at hs
      have e3 := do1_ok (hv1 _ _ _) (hm.trans hs)
      rw [e3, hw, hh]
      have hz := subN_self n
      generalize hk : (if part = 0 then n else part) = k at *
      cases void with
      | true =>
        have hp : stPosted false true n part = 0 := if_neg (fun h => by cases h.2)
        have hv := secF_void ⟨1, 1, 0, n, 0, 0, 0, 1, w1, h1⟩ ⟨2, 1, 0, 0, 0, n, 0, 2, w2, h2⟩ [{ stT n with time := 3, state := 1 }] [⟨1, 3, 2, n, n, 0, 0, 0⟩] [s] 3 0 (stS 2 1 part true) { stT n with time := 3, state := 1 } 0 n k (of_decide_eq_true (by kernel_rfl)) (by kernel_rfl)
        simp only at hv
        rw [hz, add_two] at hv
        rw [hp, show secF (stE1 n w1 w2 h1 h2 s) (stS 2 1 part true) _ 0 0 1 n k = _ from hv]
        exact ⟨rfl, ⟨_, two_account1 rfl, rfl, rfl⟩, ⟨_, two_account2 rfl rfl, rfl, rfl⟩, fun _ => steps_end _ _ (by kernel_rfl) (by kernel_rfl), fun h => absurd rfl h⟩
      | false =>
        have hp : stPosted false false n part = k := (if_pos ⟨hw, rfl⟩).trans hk
        have hv := secF_post ⟨1, 1, 0, n, 0, 0, 0, 1, w1, h1⟩ ⟨2, 1, 0, 0, 0, n, 0, 2, w2, h2⟩ [{ stT n with time := 3, state := 1 }] [⟨1, 3, 2, n, n, 0, 0, 0⟩] [s] 3 0 (stS 2 1 part false) { stT n with time := 3, state := 1 } 0 n k (by kernel_rfl) (of_decide_eq_true (by kernel_rfl))
        simp only at hv
        obtain ⟨q1, q2, q3, q4⟩ := addN_zero k
        rw [hz, q1, add_two] at hv
        rw [hp, show secF (stE1 n w1 w2 h1 h2 s) (stS 2 1 part false) _ 0 0 1 n k = _ from hv]
        exact ⟨rfl, ⟨_, two_account1 rfl, rfl, rfl⟩, ⟨_, two_account2 rfl rfl, rfl, rfl⟩, fun _ => steps_end _ _ (by kernel_rfl) (by kernel_rfl), fun h => absurd rfl h⟩
theorem two3_tr (b : Nat) (i : EngI) (hi : i.lb.length = Eng.empty.rws.length) (bq c : Nat) (κ : Kap) (hκ : Laid κ) (x y z : HProp) (cs : List HProp) :
    Te Tryd.prog 16 [.pointer (some ⟨b, 0, none⟩), .agg (reqC (reqA (some ⟨bq, 0, none⟩) [acctN 1, acctN 2] c)).toArray] κ (pts bq (37, [acctN 1, acctN 2].flatMap encA) :: x :: y :: z :: engO b Eng.empty i cs) (fun u : EngI × Value => u.1.lb.length = two0.rws.length)
      (fun u => u.2) (fun u => x :: y :: z :: engO b two0 u.1 cs) := fun w hs => by
  have h := applyF_tr [pts bq (37, [acctN 1, acctN 2].flatMap encA), x, y, z] b Eng.empty i hi (m := 0) (by omega) empty_w (reqA (some ⟨bq, 0, none⟩) [acctN 1, acctN 2] c) (by simp [reqA]) (by simp [reqA]) (by simp [reqA]) κ hκ [pts bq (37, [acctN 1, acctN 2].flatMap encA)] cs ⟨[], _, rfl⟩ (.inr ⟨bq, 0, rfl, .ofRd (h := .head)⟩) (.inl rfl)
  rw [two_apply] at h
  exact (h w hs).mono fun _ _ ⟨u, h0, h1, h2⟩ => ⟨(u.1, _), h0, h1, h2.rows.rows⟩
def tickR (t : Int) : Req := ⟨3, none, [], 0, none, [], 0, 0, 0, t, 0, 0⟩
theorem steps_apply (n : Num) : ((do1 two0 (stT n)).1.apply (tickR 5)).1.1 = (do1 two0 (stT n)).1.tick 5 := by
  obtain ⟨w1, w2, h1, h2, s, e1⟩ := steps_one n
  rw [e1]
  unfold Eng.apply
  rw [if_neg (show ¬ (tickR 5).kind = 1 by decide), if_neg (show ¬ (tickR 5).kind = 2 by decide), if_pos ⟨rfl, show (0 : Int) < 5 by decide⟩]
  rfl
theorem stPre_w (tk : Bool) (n : Num) : EngW 1204 (stPre tk n) := by
  have hw1 := do1_w two0_w (stT n)
  cases tk with
  | false => exact hw1.mono (by omega)
  | true =>
    have := apply_w hw1 (tickR 5) (by decide) (by decide) (by decide)
    rw [steps_apply] at this
    exact this
theorem Tr.efF3 {P : Program} {f : FuncId} {args : List Value} {κ : Kap} {b : Nat} {e : Eng} {i : EngI} {cs : List HProp} {v : Value} {x y z : HProp} (F : List HProp) (h : ∀ cs, Tr P f args κ (engO b e i cs) v (engO b e i cs)) : Tr P f args κ (F ++ x :: y :: z :: engO b e i cs) v (F ++ x :: y :: z :: engO b e i cs) := by
  have := Tr.ef (F ++ [x, y, z]) (h ((F ++ [x, y, z]) ++ cs))
  rw [List.append_assoc] at this
  exact this
theorem Tr.efF4 {P : Program} {f : FuncId} {args : List Value} {κ : Kap} {b : Nat} {e : Eng} {i : EngI} {cs : List HProp} {v : Value} {x y z u : HProp} (F : List HProp) (h : ∀ cs, Tr P f args κ (engO b e i cs) v (engO b e i cs)) : Tr P f args κ (F ++ x :: y :: z :: u :: engO b e i cs) v (F ++ x :: y :: z :: u :: engO b e i cs) := by
  have := Tr.ef (F ++ [x, y, z, u]) (h ((F ++ [x, y, z, u]) ++ cs))
  rw [List.append_assoc] at this
  exact this
end Go.Proofs.YtpcechnalfaajaaDoor

/- The law EngineSteps. -/
namespace Go.Proofs.YtpcechnalfaajaaDoor
open Go Go.Proofs

theorem eng_drop {κ : Kap} {w : World} {b : Nat} {e : Eng} {i : EngI} {cs : List HProp} (hs : Sat κ w (engO b e i cs)) : Sat κ w cs := by
  have h1 : Sat κ w ([_, _, _, _, _, _] ++ (rowsP e.rws i.lb ++ cs)) := hs
  have h2 : Sat κ w (rowsP e.rws i.lb ++ cs) := h1.imp fun g hg => sepL_cut [] [_, _, _, _, _, _] hg
  exact h2.imp fun g hg => sepL_cut [] (rowsP e.rws i.lb) hg
set_option maxHeartbeats 4000000 in
theorem steps_tr (n part : Num) (w0 w1 : Int) (κ : Kap) (hκ : Laid κ) (cs : List HProp) : Tr Tryd.prog 3 [.agg (nm n).toArray, .agg (nm part).toArray, .agg #[.int .i64 w0, .int .i64 w1]] κ cs (.bool true) cs := by
  refine .enter Tryd.func3 rfl rfl ?_
  refine .seq ?_
  refine .reg ?_
  refine .bx fun b3 => ?_
  refine .bx fun b4 => ?_
  refine .bx fun b5 => ?_
  refine .as ?_
  refine .go ?_
  refine .seq ?_
  refine .seq ?_
  refine .reg ?_
  rw [vc_agg, vc_agg]
  refine .cl (fit_tr κ hκ _) ?_
  refine .nt ?_
  refine .go ?_
  refine .cond rfl (fun hc => by cases hc) (fun hc => ?_)
  refine .go ?_
  refine .seq ?_
  refine .reg ?_
  refine .ixa ?_
  refine .ld ?_
  refine .as ?_
  refine .go ?_
  refine .seq ?_
  refine .reg ?_
  refine .ce (newO_tr κ _) (fun x hx => ?_)
  generalize x.1 = b at *
  generalize x.2 = i at *
  refine .al fun b8 => ?_
  refine .st ?_
  refine .go ?_
  refine .seq ?_
  rw [vc_agg]
  refine .sat (cs' := boxE b8 b :: pts b3 (24, nm n) :: pts b4 (24, nm part) :: engO b Eng.empty i cs) (fun w hs => (hs.imp fun _ hg => sepL_tails (F := [_]) (fun _ hg => (eng_back [_, _, _]).2 hg) hg).pm 4 [0, 3, 2]) ?_
  refine .regD [(b8, 0, [ptrV b])] [] ?_
  refine .ld 0 ?_
  refine .cl 1 (of_tr 1 (by decide) κ _) ?_
  refine .bd 2 (r := encA (acctN 1)) ?_ rfl ⟨inferInstance, inferInstance, rfl, by kernel_rfl⟩
  refine .cl 3 (of_tr 2 (by decide) κ _) ?_
  refine .bd 4 (r := encA (acctN 2)) ?_ rfl ⟨inferInstance, inferInstance, rfl, by kernel_rfl⟩
  refine .bs 5 (r := [acctN 1, acctN 2].flatMap encA) (fun b30 => ?_) rfl ⟨inferInstance, inferInstance, ⟨rfl, rfl, rfl, rfl⟩, rfl, by kernel_rfl⟩
  refine .bd 6 (r := reqC (reqA (some ⟨b30, 0, none⟩) [acctN 1, acctN 2] 2)) ?_ rfl ⟨inferInstance, inferInstance, rfl, by kernel_rfl⟩
  refine .ce 7 (two3_tr b i hx b30 2 κ hκ _ _ _ _) (fun z hz => ?_)
  generalize z.1 = i1 at *
  generalize z.2 = v32
  refine .go ?_
  refine .seq ?_
  refine .reg ?_
  refine .mf ?_
  refine .as ?_
  refine .go ?_
  refine .seq ?_
  refine .seq ?_
  refine .regD [(b8, 0, [ptrV b]), (b3, 0, nm n)] [] ?_
  refine .mv 0 ?_
  refine .ldw 4 ?_
  refine .cl 1 (of_tr 1 (by decide) κ _) ?_
  refine .cl 2 (of_tr 1 (by decide) κ _) ?_
  refine .cl 3 (of_tr 2 (by decide) κ _) ?_
  refine .bd 5 (r := encT (stT n)) ?_ rfl ⟨inferInstance, inferInstance, rfl, by kernel_rfl⟩
  refine .ceV 6 (fst := []) (cap := [.pointer (some ⟨b8, 0, none⟩)]) (vs := [.agg (encT (stT n)).toArray]) (doS2_tr b b8 two0 i1 hz (by omega) two0_w (stT n) κ hκ _ _ _) (fun i2 h2 => ?_)
  obtain ⟨l1, -⟩ := steps_law false false n part
  have hw1 := do1_w two0_w (stT n)
  rw [l1]
  refine .ne 7 ?_
  refine .go ?_
  refine .cond rfl (fun hc => by cases hc) (fun hc => ?_)
  refine .go ?_
  refine .seq ?_
  refine .reg ?_
  refine .as ?_
  refine .go ?_
  obtain ⟨vd, hvd⟩ : ∃ vd : Bool, decide (band w0 1 = 1) = vd := ⟨_, rfl⟩
  obtain ⟨tk, htk⟩ : ∃ tk : Bool, decide (band w0 2 = 2) = tk := ⟨_, rfl⟩
  refine .jn (ι := Unit) (fun _ => [(3, .pointer (some ⟨b3, 0, none⟩)), (4, .pointer (some ⟨b4, 0, none⟩)), (6, .bool false), (7, .int .i64 w0), (8, .pointer (some ⟨b8, 0, none⟩)), (9, .func (.func 18) #[] #[.pointer (some ⟨b8, 0, none⟩)]), (10, .int .i64 (if vd then 8 else 4))]) (fun _ => boxE b8 b :: pts b3 (24, nm n) :: pts b4 (24, nm part) :: engO b (do1 two0 (stT n)).1 i2 cs) (fun _ => True) ?_ fun _ _ => ?_
  · refine .seq ?_
    refine .reg ?_
    refine .mv ?_
    refine .an ?_
    refine .eq ?_
    refine .go ?_
    refine .cond rfl (fun hc => ?_) (fun hc => ?_)
    · have : vd = true := hvd.symm.trans hc
      subst this
      refine .reg ?_
      refine .as ?_
      exact .nil fun aa w hf hs => ⟨(), trivial, hf.to (by repeat (first | exact trivial | refine ⟨rfl, ?_⟩)), hs⟩
    · have : vd = false := hvd.symm.trans hc
      subst this
      exact .skip fun aa w hf hs => ⟨(), trivial, hf.to (by repeat (first | exact trivial | refine ⟨rfl, ?_⟩)), hs⟩
  refine .jn (ι := EngI) (fun _ => [(3, .pointer (some ⟨b3, 0, none⟩)), (4, .pointer (some ⟨b4, 0, none⟩)), (6, .bool false), (7, .int .i64 w0), (8, .pointer (some ⟨b8, 0, none⟩)), (9, .func (.func 18) #[] #[.pointer (some ⟨b8, 0, none⟩)]), (10, .int .i64 (if vd then 8 else 4))]) (fun i3 => boxE b8 b :: pts b3 (24, nm n) :: pts b4 (24, nm part) :: engO b (stPre tk n) i3 cs) (fun i3 => i3.lb.length = (stPre tk n).rws.length) ?_ fun i3 h3 => ?_
  · refine .seq ?_
    refine .reg ?_
    refine .mv ?_
    refine .an ?_
    refine .eq ?_
    refine .go ?_
    refine .cond rfl (fun hc => ?_) (fun hc => ?_)
    · have : tk = true := htk.symm.trans hc
      subst this
      refine .reg ?_
      refine .ld ?_
      refine .bd (r := reqC (tickR 5)) ?_ ⟨inferInstance, inferInstance, rfl, by kernel_rfl⟩
      refine .ce (applyF_tr [boxE b8 b, pts b3 (24, nm n), pts b4 (24, nm part)] b (do1 two0 (stT n)).1 i2 h2 (m := 604) (by omega) hw1 (tickR 5) (by decide) (by decide) (by decide) κ hκ [] cs ⟨[], _, rfl⟩ (.inl rfl) (.inl rfl)) (fun y hy => ?_)
      rw [steps_apply] at hy ⊢
      exact .nil fun aa w hf hs => ⟨y.1, hy, hf.to (by repeat (first | exact trivial | refine ⟨rfl, ?_⟩)), hs.rows⟩
    · have : tk = false := htk.symm.trans hc
      subst this
      exact .skip fun aa w hf hs => ⟨i2, h2, hf.to (by repeat (first | exact trivial | refine ⟨rfl, ?_⟩)), hs⟩
  obtain ⟨-, l2, l3, l4, l5, l6⟩ := steps_law tk vd n part
  have hwP := stPre_w tk n
  have hwQ := do1_w hwP (stS 2 1 part vd)
  refine .seq ?_
  refine .regD [(b8, 0, [ptrV b]), (b4, 0, nm part)] [] ?_
  refine .mv 0 ?_
  refine .ldw 3 ?_
  refine .mv 4 ?_
  refine .cl 1 (of_tr 2 (by decide) κ _) ?_
  refine .cl 2 (of_tr 1 (by decide) κ _) ?_
  refine .bd 5 (r := encT (stS 2 1 part vd)) ?_ rfl ⟨inferInstance, inferInstance, rfl, by kernel_rfl⟩
  refine .ceV 6 (fst := []) (cap := [.pointer (some ⟨b8, 0, none⟩)]) (vs := [.agg (encT (stS 2 1 part vd)).toArray]) (doS2_tr b b8 (stPre tk n) i3 h3 (by omega) hwP (stS 2 1 part vd) κ hκ _ _ _) (fun i4 h4 => ?_)
  rw [l2]
  generalize (do1 (stPre tk n) (stS 2 1 part vd)).1 = E at *
  refine .as 7 ?_
  refine .go ?_
  refine .seq ?_
  refine .reg ?_
  refine .as ?_
  refine .go ?_
  refine .seq ?_
  refine .reg ?_
  refine .ldw ?_
  refine .ldw ?_
  refine .cl (compare_tr part n κ _) ?_
  refine .as ?_
  refine .go ?_
  refine .jn (ι := Unit) (fun _ => [(3, .pointer (some ⟨b3, 0, none⟩)), (4, .pointer (some ⟨b4, 0, none⟩)), (6, .bool false), (7, .int .i64 w0), (8, .pointer (some ⟨b8, 0, none⟩)), (9, .func (.func 18) #[] #[.pointer (some ⟨b8, 0, none⟩)]), (10, .int .i64 (if vd then 8 else 4)), (11, .int .i64 (stWant tk vd n part)), (12, .int .i64 (stWant tk vd n part))]) (fun _ => boxE b8 b :: pts b3 (24, nm n) :: pts b4 (24, nm part) :: engO b E i4 cs) (fun _ => True) ?_ fun _ _ => ?_
  · refine .block ?_
    refine .seq ?_
    refine .reg ?_
    refine .mv ?_
    refine .an ?_
    refine .eq ?_
    refine .as ?_
    refine .go ?_
    rw [htk]
    cases tk with
    | true =>
      refine .cond rfl (fun hc => ?_) (fun hc => by cases hc)
      rw [show stWant true vd n part = 23 from if_pos rfl]
      refine .reg ?_
      refine .as ?_
      exact .nil fun aa w hf hs => ⟨(), trivial, hf.to (by repeat (first | exact trivial | refine ⟨rfl, ?_⟩)), hs⟩
    | false =>
      refine .cond rfl (fun hc => by cases hc) (fun hc => ?_)
      have hw : stWant false vd n part = if part ≠ 0 ∧ (n.toNat < part.toNat ∨ (part.toNat < n.toNat ∧ vd = true)) then 24 else 0 := if_neg (by decide)
      have hy : (part ≠ 0 ∧ (n.toNat < part.toNat ∨ (part.toNat < n.toNat ∧ vd = true))) → stWant false vd n part = 24 := fun h => hw.trans (if_pos h)
      have hn : ¬ (part ≠ 0 ∧ (n.toNat < part.toNat ∨ (part.toNat < n.toNat ∧ vd = true))) → stWant false vd n part = 0 := fun h => hw.trans (if_neg h)
      clear hw
      generalize stWant false vd n part = W at *
      refine .seq ?_
      refine .reg ?_
      refine .ldw ?_
      refine .bz ?_
      refine .nen part 0 ?_
      refine .mv ?_
      by_cases h0 : part = 0
      · rw [decide_eq_true h0, hn (fun h => h.1 h0)]
        repeat refine .skip ?_
        first | refine .pt ?_ | refine .pf ?_
        refine .as ?_
        refine .go ?_
        refine .cond rfl (fun hc => by cases hc) (fun hc => ?_)
        exact .skip fun aa w hf hs => ⟨(), trivial, hf.to (by repeat (first | exact trivial | refine ⟨rfl, ?_⟩)), hs⟩
      · rw [decide_eq_false h0]
        rcases cmp_ways part n with ⟨h, h'⟩ | ⟨h, h'⟩ | ⟨h, h'⟩
        · rw [h']
          refine .mv ?_
          refine .gt ?_
          refine .mv ?_
          refine .mv ?_
          refine .lt ?_
          refine .mv ?_
          refine .mv ?_
          refine .eq ?_
          first | refine .pt ?_ | refine .pf ?_
          first | refine .pt ?_ | refine .pf ?_
          first | refine .pt ?_ | refine .pf ?_
          refine .as ?_
          refine .go ?_
          cases vd with
          | true =>
            rw [hy ⟨h0, .inr ⟨h, rfl⟩⟩]
            refine .cond rfl (fun hc => ?_) (fun hc => by cases hc)
            refine .reg ?_
            refine .as ?_
            exact .nil fun aa w hf hs => ⟨(), trivial, hf.to (by repeat (first | exact trivial | refine ⟨rfl, ?_⟩)), hs⟩
          | false =>
            rw [hn (fun h5 => h5.2.elim (fun h1 => by omega) (fun h1 => by cases h1.2))]
            refine .cond rfl (fun hc => by cases hc) (fun hc => ?_)
            exact .skip fun aa w hf hs => ⟨(), trivial, hf.to (by repeat (first | exact trivial | refine ⟨rfl, ?_⟩)), hs⟩
        · rw [h', hn (by rintro ⟨_, h1 | h1⟩ <;> omega)]
          refine .mv ?_
          refine .gt ?_
          refine .mv ?_
          refine .mv ?_
          refine .lt ?_
          refine .mv ?_
          repeat refine .skip ?_
          first | refine .pt ?_ | refine .pf ?_
          first | refine .pt ?_ | refine .pf ?_
          first | refine .pt ?_ | refine .pf ?_
          refine .as ?_
          refine .go ?_
          refine .cond rfl (fun hc => by cases hc) (fun hc => ?_)
          exact .skip fun aa w hf hs => ⟨(), trivial, hf.to (by repeat (first | exact trivial | refine ⟨rfl, ?_⟩)), hs⟩
        · rw [h', hy ⟨h0, .inl h⟩]
          refine .mv ?_
          refine .gt ?_
          refine .mv ?_
          repeat refine .skip ?_
          first | refine .pt ?_ | refine .pf ?_
          first | refine .pt ?_ | refine .pf ?_
          refine .as ?_
          refine .go ?_
          refine .cond rfl (fun hc => ?_) (fun hc => by cases hc)
          refine .reg ?_
          refine .as ?_
          exact .nil fun aa w hf hs => ⟨(), trivial, hf.to (by repeat (first | exact trivial | refine ⟨rfl, ?_⟩)), hs⟩
  obtain ⟨x1, ha1, hq1, hp1⟩ := l3
  obtain ⟨x2, ha2, hq2, hp2⟩ := l4
  have hA1 := fun κ cs => acct_tr b E hwQ.hn (by have := hwQ.la; omega) i4 1 κ cs
  have hA2 := fun κ cs => acct_tr b E hwQ.hn (by have := hwQ.la; omega) i4 2 κ cs
  rw [ha1] at hA1
  rw [ha2] at hA2
  simp only [Option.getD_some, Option.isSome_some] at hA1 hA2
  refine .seq ?_
  refine .regD [(b8, 0, [ptrV b])] [] ?_
  refine .ld 0 ?_
  refine .pend ?_
  refine .al 6 ?_
  refine .cl 1 (fun F => of_tr 1 (by decide) κ _) ?_
  refine .cl 2 (fun F => Tr.efF3 F fun cs => hA1 κ cs) ?_
  refine .mv 3 ?_
  refine .ex 4 ?_
  refine .ex 5 ?_
  refine .com fun b14 => ?_
  refine .dn ?_
  have hx46 : (encA x1).length = 46 := encA_len _
  have hx1 : one (encA x1) = true := encA_one _
  have hy46 : (encA x2).length = 46 := encA_len _
  have hy1 : one (encA x2) = true := encA_one _
  refine .stw 7 (v := .agg (encA x1).toArray) ?_ (h := ⟨rfl, rfl, inferInstance, inferInstance, ⟨hx46, rfl⟩, hx1, rfl⟩)
  rw [vc_agg]
  refine .as 8 ?_
  refine .go ?_
  refine .seq ?_
  refine .sat (fun w hs => hs.pm 4 [1, 0, 2, 3]) ?_
  refine .regD [(b8, 0, [ptrV b])] [] ?_
  refine .ld 0 ?_
  refine .pend ?_
  refine .al 6 ?_
  refine .cl 1 (fun F => of_tr 2 (by decide) κ _) ?_
  refine .cl 2 (fun F => Tr.efF4 F fun cs => hA2 κ cs) ?_
  refine .mv 3 ?_
  refine .ex 4 ?_
  refine .ex 5 ?_
  refine .com fun b16 => ?_
  refine .dn ?_
  refine .stw 7 (v := .agg (encA x2).toArray) ?_ (h := ⟨rfl, rfl, inferInstance, inferInstance, ⟨hy46, rfl⟩, hy1, rfl⟩)
  rw [vc_agg]
  refine .as 8 ?_
  refine .go ?_
  refine .seq ?_
  refine .regD [(b3, 0, nm n)] [] ?_
  refine .bz 0 ?_
  refine .ldw 1 ?_
  refine .pend ?_
  refine .al 3 ?_
  refine .al 2 ?_
  refine .com fun b18 => ?_
  refine .com fun b19 => ?_
  refine .dn ?_
  refine .stw 4 (v := .agg (nm 0).toArray) ?_
  rw [vc_agg]
  refine .stw 5 (v := .agg (nm n).toArray) ?_
  rw [vc_agg]
  refine .go ?_
  have hH : stHeld tk vd n part = if stWant tk vd n part = 24 then n else 0 := rfl
  have hP : stPosted tk vd n part = if stWant tk vd n part = 0 ∧ vd = false then (if part = 0 then n else part) else 0 := rfl
  have hWc : stWant tk vd n part = 0 ∨ stWant tk vd n part = 23 ∨ stWant tk vd n part = 24 := by
    unfold stWant
    split
    · exact .inr (.inl rfl)
    · split
      · exact .inr (.inr rfl)
      · exact .inl rfl
  generalize stHeld tk vd n part = H at *
  generalize stPosted tk vd n part = B at *
  generalize stWant tk vd n part = W at *
  refine .jn (ι := Unit) (fun _ => [(6, .bool false), (8, .pointer (some ⟨b8, 0, none⟩)), (9, .func (.func 18) #[] #[.pointer (some ⟨b8, 0, none⟩)]), (10, .int .i64 (if vd then 8 else 4)), (11, .int .i64 W), (12, .int .i64 W), (14, .pointer (some ⟨b14, 0, none⟩)), (16, .pointer (some ⟨b16, 0, none⟩)), (18, .pointer (some ⟨b18, 0, none⟩)), (19, .pointer (some ⟨b19, 0, none⟩))])
    (fun _ => boxE b8 b :: pts b14 (37, encA x1) :: pts b16 (37, encA x2) :: pts b18 (24, nm B) :: pts b19 (24, nm (if W = 0 then 0 else n)) :: engO b E i4 cs) (fun _ => True) ?_ fun _ _ => ?_
  · refine .seq ?_
    refine .reg ?_
    refine .mv ?_
    refine .eq ?_
    refine .go ?_
    by_cases hW0 : W = 0
    · rw [decide_eq_true hW0, if_pos hW0]
      refine .cond rfl (fun hc => ?_) (fun hc => by cases hc)
      refine .seq ?_
      refine .reg ?_
      refine .bz ?_
      refine .stw (v := .agg (nm 0).toArray) ?_
      rw [vc_agg]
      refine .go ?_
      refine .seq ?_
      refine .reg ?_
      refine .mv ?_
      refine .eq ?_
      refine .go ?_
      cases vd with
      | true =>
        have hB : B = 0 := hP.trans (if_neg fun h => by cases h.2)
        rw [hB]
        refine .cond rfl (fun hc => by cases hc) (fun hc => ?_)
        exact .skip fun aa w hf hs => ⟨(), trivial, hf.to (by repeat (first | exact trivial | refine ⟨rfl, ?_⟩)), hs.pm 7 [3, 4, 2, 1, 0]⟩
      | false =>
        have hB : B = if part = 0 then n else part := hP.trans (if_pos ⟨hW0, rfl⟩)
        refine .cond rfl (fun hc => ?_) (fun hc => by cases hc)
        refine .seq ?_
        refine .reg ?_
        refine .ldw ?_
        refine .stw (v := .agg (nm part).toArray) ?_
        rw [vc_agg]
        refine .go ?_
        refine .seq ?_
        refine .reg ?_
        refine .ldw ?_
        refine .bz ?_
        refine .eqn part 0 ?_
        refine .go ?_
        by_cases hp0 : part = 0
        · rw [decide_eq_true hp0]
          rw [if_pos hp0] at hB
          rw [hB]
          refine .cond rfl (fun hc => ?_) (fun hc => by cases hc)
          refine .reg ?_
          refine .ldw ?_
          refine .stw (v := .agg (nm n).toArray) ?_
          rw [vc_agg]
          exact .nil fun aa w hf hs => ⟨(), trivial, hf.to (by repeat (first | exact trivial | refine ⟨rfl, ?_⟩)), hs.pm 7 [3, 4, 2, 1, 0]⟩
        · rw [decide_eq_false hp0]
          rw [if_neg hp0] at hB
          rw [hB]
          refine .cond rfl (fun hc => by cases hc) (fun hc => ?_)
          exact .skip fun aa w hf hs => ⟨(), trivial, hf.to (by repeat (first | exact trivial | refine ⟨rfl, ?_⟩)), hs.pm 7 [3, 4, 2, 1, 0]⟩
    · rw [decide_eq_false hW0, if_neg hW0]
      have hB : B = 0 := hP.trans (if_neg fun h => hW0 h.1)
      rw [hB]
      refine .cond rfl (fun hc => by cases hc) (fun hc => ?_)
      exact .skip fun aa w hf hs => ⟨(), trivial, hf.to (by repeat (first | exact trivial | refine ⟨rfl, ?_⟩)), hs.pm 7 [3, 4, 2, 1, 0]⟩
  refine .jn (ι := Unit) (fun _ => [(6, .bool false), (8, .pointer (some ⟨b8, 0, none⟩)), (9, .func (.func 18) #[] #[.pointer (some ⟨b8, 0, none⟩)]), (10, .int .i64 (if vd then 8 else 4)), (11, .int .i64 W), (12, .int .i64 W), (14, .pointer (some ⟨b14, 0, none⟩)), (16, .pointer (some ⟨b16, 0, none⟩)), (18, .pointer (some ⟨b18, 0, none⟩)), (19, .pointer (some ⟨b19, 0, none⟩))])
    (fun _ => boxE b8 b :: pts b14 (37, encA x1) :: pts b16 (37, encA x2) :: pts b18 (24, nm B) :: pts b19 (24, nm H) :: engO b E i4 cs) (fun _ => True) ?_ fun _ _ => ?_
  · refine .seq ?_
    refine .reg ?_
    refine .mv ?_
    refine .eq ?_
    refine .go ?_
    by_cases h23 : W = 23
    · rw [decide_eq_true h23]
      have hH0 : H = 0 := hH.trans (if_neg (by rw [h23]; decide))
      rw [hH0]
      refine .cond rfl (fun hc => ?_) (fun hc => by cases hc)
      refine .reg ?_
      refine .bz ?_
      refine .stw (v := .agg (nm 0).toArray) ?_
      rw [vc_agg]
      exact .nil fun aa w hf hs => ⟨(), trivial, hf.to (by repeat (first | exact trivial | refine ⟨rfl, ?_⟩)), hs⟩
    · rw [decide_eq_false h23]
      have hH1 : H = if W = 0 then 0 else n := by
        rcases hWc with h | h | h
        · rw [hH, if_neg (by rw [h]; decide), if_pos h]
        · exact absurd h h23
        · rw [hH, if_pos h, if_neg (by rw [h]; decide)]
      rw [← hH1]
      refine .cond rfl (fun hc => by cases hc) (fun hc => ?_)
      exact .skip fun aa w hf hs => ⟨(), trivial, hf.to (by repeat (first | exact trivial | refine ⟨rfl, ?_⟩)), hs⟩
  repeat refine .seq ?_
  refine .reg ?_
  refine .mv ?_
  refine .mv ?_
  refine .ne ?_
  rw [decide_eq_false (p := W ≠ W) (fun h => h rfl)]
  refine .mv ?_
  refine .fa ?_
  refine .ld (v := .agg (nm x1.dq).toArray) ?_
  refine .ldw ?_
  refine .nen x1.dq B ?_
  rw [decide_eq_true hq1]
  first | refine .pt ?_ | refine .pf ?_
  refine .mv ?_
  refine .fa ?_
  refine .ld (v := .agg (nm x2.cq).toArray) ?_
  refine .ldw ?_
  refine .nen x2.cq B ?_
  rw [decide_eq_true hq2]
  first | refine .pt ?_ | refine .pf ?_
  refine .mv ?_
  refine .fa ?_
  refine .ld (v := .agg (nm x1.dp).toArray) ?_
  refine .ldw ?_
  refine .nen x1.dp H ?_
  rw [decide_eq_true hp1]
  first | refine .pt ?_ | refine .pf ?_
  refine .mv ?_
  refine .fa ?_
  refine .ld (v := .agg (nm x2.cp).toArray) ?_
  refine .ldw ?_
  refine .nen x2.cp H ?_
  rw [decide_eq_true hp2]
  first | refine .pt ?_ | refine .pf ?_
  refine .go ?_
  refine .cond rfl (fun hc => by cases hc) (fun hc => ?_)
  refine .go ?_
  repeat refine .seq ?_
  refine .reg ?_
  refine .mv ?_
  refine .eq ?_
  refine .go ?_
  refine .sat (cs' := boxE b8 b :: engO b E i4 cs) (fun w hs => hs.pm 5 [0]) ?_
  by_cases hW0 : W = 0
  · rw [decide_eq_true hW0]
    obtain ⟨m1, m2⟩ := l5 hW0
    have hwR := do1_w hwQ (stS 3 1 0 vd)
    refine .cond rfl (fun hc => ?_) (fun hc => by cases hc)
    repeat refine .seq ?_
    refine .reg ?_
    refine .mv ?_
    refine .cl (of_tr 3 (by decide) κ _) ?_
    refine .cl (of_tr 1 (by decide) κ _) ?_
    refine .mv ?_
    refine .bd (r := encT (stS 3 1 0 vd)) ?_ ⟨inferInstance, inferInstance, rfl, by kernel_rfl⟩
    refine .ceV (fst := []) (cap := [.pointer (some ⟨b8, 0, none⟩)]) (vs := [.agg (encT (stS 3 1 0 vd)).toArray]) (doS_tr b b8 E i4 h4 (by omega) hwQ (stS 3 1 0 vd) κ hκ _) (fun i5 h5 => ?_)
    rw [m1]
    generalize (do1 E (stS 3 1 0 vd)).1 = E1 at *
    refine .eq ?_
    refine .mv ?_
    refine .mv ?_
    refine .cl (of_tr 3 (by decide) κ _) ?_
    refine .cl (of_tr 2 (by decide) κ _) ?_
    refine .mv ?_
    refine .bd (r := encT (stS 3 2 0 vd)) ?_ ⟨inferInstance, inferInstance, rfl, by kernel_rfl⟩
    refine .ceV (fst := []) (cap := [.pointer (some ⟨b8, 0, none⟩)]) (vs := [.agg (encT (stS 3 2 0 vd)).toArray]) (doS_tr b b8 E1 i5 h5 (by omega) hwR (stS 3 2 0 vd) κ hκ _) (fun i6 h6 => ?_)
    rw [m2]
    generalize (do1 E1 (stS 3 2 0 vd)).1 = E2 at *
    refine .eq ?_
    first | refine .pt ?_ | refine .pf ?_
    refine .as ?_
    refine .go ?_
    refine .r1 fun w hs => ?_
    exact ⟨rfl, eng_drop hs.rows⟩
  · rw [decide_eq_false hW0]
    have m1 := l6 hW0
    refine .cond rfl (fun hc => by cases hc) (fun hc => ?_)
    refine .go ?_
    repeat refine .seq ?_
    refine .reg ?_
    refine .mv ?_
    refine .cl (of_tr 3 (by decide) κ _) ?_
    refine .cl (of_tr 9 (by decide) κ _) ?_
    refine .mv ?_
    refine .bd (r := encT (stS 3 9 0 vd)) ?_ ⟨inferInstance, inferInstance, rfl, by kernel_rfl⟩
    refine .ceV (fst := []) (cap := [.pointer (some ⟨b8, 0, none⟩)]) (vs := [.agg (encT (stS 3 9 0 vd)).toArray]) (doS_tr b b8 E i4 h4 (by omega) hwQ (stS 3 9 0 vd) κ hκ _) (fun i5 h5 => ?_)
    rw [m1]
    generalize (do1 E (stS 3 9 0 vd)).1 = E1 at *
    refine .eq ?_
    refine .as ?_
    refine .go ?_
    refine .r1 fun w hs => ?_
    exact ⟨rfl, eng_drop hs.rows⟩
end Go.Proofs.YtpcechnalfaajaaDoor

/- The law EngineRefuses. -/
namespace Go.Proofs.YtpcechnalfaajaaDoor
open Go Go.Proofs

theorem alike_self (e : Eng) : alikeE e e = true := decide_eq_true ⟨rfl, rfl⟩
set_option maxHeartbeats 4000000 in
theorem refuses_tr (L : List Req) (p : Option Addr) (cap : Nat) (hcap : L.length ≤ cap) (kd : Int) (κ : Kap) (hκ : Laid κ) (hL : ReqsOk κ p L) (cs : List HProp) : Tr Tryd.prog 13 [.slice p L.length cap, .int .i64 kd] κ cs (.bool true) cs := by
  refine .enter Tryd.func13 rfl rfl ?_
  repeat refine .seq ?_
  refine .reg ?_
  refine .as ?_
  refine .go ?_
  repeat refine .seq ?_
  refine .reg ?_
  refine .cl (fit_tr κ hκ _) ?_
  refine .nt ?_
  refine .go ?_
  refine .cond rfl (fun hc => by cases hc) (fun hc => ?_)
  refine .go ?_
  repeat refine .seq ?_
  refine .reg ?_
  refine .mv ?_
  refine .cl (light_tr L p cap hcap κ hL _) ?_
  refine .nt ?_
  refine .go ?_
  refine .cond rfl (fun hc => ?_) (fun hc => ?_)
  · repeat refine .seq ?_
    refine .reg ?_
    refine .as ?_
    refine .go ?_
    refine .r1 fun w hs => ?_
    exact ⟨rfl, hs⟩
  have h60 := light_60 (show lightL L = true by simpa using hc)
  refine .go ?_
  repeat refine .seq ?_
  refine .reg ?_
  refine .ce (newO_tr κ _) (fun x hx => ?_)
  generalize x.1 = b at *
  generalize x.2 = i0 at *
  refine .as ?_
  refine .go ?_
  repeat refine .seq ?_
  refine .reg ?_
  refine .mv ?_
  refine .ln ?_
  refine .mv ?_
  refine .go ?_
  repeat refine .seq ?_
  refine .block ?_
  have hfr : ∀ q ∈ L, q.from_ ≤ 9223372036854775807 := fun q hq => (hL.fr q hq).2
  have hWk : ∀ k, k ≤ L.length → EngW 36600 (runL Eng.empty (L.take k)) := fun k hk => (runL_w empty_w (L.take k) (fun q hq => hfr q (List.mem_of_mem_take hq))).mono (by rw [List.length_take]; omega)
  refine .lp (fun x : Nat × EngI => [(0, .slice p L.length cap), (1, .int .i64 kd), (4, .bool false), (5, .pointer (some ⟨b, 0, none⟩)), (19, .slice p L.length cap), (20, .int .i64 L.length), (21, .int .i64 x.1)])
    (fun x => engO b (runL Eng.empty (L.take x.1)) x.2 cs) (fun x => x.1 ≤ L.length ∧ x.2.lb.length = (runL Eng.empty (L.take x.1)).rws.length) (fun x => L.length - x.1) (0, i0) ⟨Nat.zero_le _, hx⟩ (by repeat (first | exact trivial | refine ⟨rfl, ?_⟩)) rfl fun x hx => ?_
  obtain ⟨k, ik⟩ := x
  obtain ⟨hk, hik⟩ := hx
  simp only at hk hik
  refine .fra (fr' := [(0, .slice p L.length cap), (1, .int .i64 kd), (4, .bool false), (5, .pointer (some ⟨b, 0, none⟩)), (19, .slice p L.length cap), (20, .int .i64 L.length), (21, .int .i64 k)]) (by repeat (first | exact trivial | refine ⟨rfl, ?_⟩)) ?_
  refine .sat (cs' := engO b (runL Eng.empty (L.take k)) ik cs) (fun w hs => hs) ?_
  repeat refine .seq ?_
  refine .reg ?_
  refine .lt ?_
  refine .go ?_
  repeat refine .seq ?_
  refine .cond rfl (fun hc => ?_) (fun hc => ?_)
  · have hkl : k < L.length := by have : (k : Int) < L.length := of_decide_eq_true hc; omega
    have hmem := List.getElem_mem hkl
    have hrun := runL_take (e := Eng.empty) hkl
    rcases hL.rd with h | ⟨bl, o, rfl, hr⟩
    · exfalso
      have := congrArg List.length h
      rw [flat_len reqC 8 reqC_len] at this
      simp at this; omega
    refine .sat (cs' := isK κ :: engO b (runL Eng.empty (L.take k)) ik cs) (fun w hs => hs.isK) ?_
    haveI : RdAt bl (isK κ :: engO b (runL Eng.empty (L.take k)) ik cs) o (L.flatMap reqC) := .ofK hr
    refine .go ?_
    repeat refine .seq ?_
    refine .block ?_
    repeat refine .seq ?_
    refine .reg ?_
    refine .ix ?_
    refine .lx (req_get L k hkl) ?_
    have hWk0 := hWk k hk
    generalize runL Eng.empty (L.take k) = E at *
    generalize hq : L[k] = q at *
    refine .al fun b7 => ?_
    refine .stw (v := .agg (reqC q).toArray) ?_
    rw [vc_agg]
    refine .go ?_
    repeat refine .seq ?_
    refine .reg ?_
    refine .mv ?_
    refine .ldw ?_
    refine .cl (tame_tr q (hL.ac q hmem).2 (hL.tr q hmem).2 κ _) ?_
    refine .sat (cs' := engO b E ik cs) (fun w hs => hs.rows.rows) ?_
    refine .ce (applyQ_tr b E ik hik (by omega) hWk0 q κ hκ (hL.ac q hmem).1 (hL.tr q hmem).1 (hfr q hmem) _) (fun y hy => ?_)
    rw [← hrun] at hy
    refine .go ?_
    refine .reg ?_
    refine .ad ?_
    refine .mv ?_
    refine .nil fun aa w hf hs => ⟨(k + 1, y.1), ⟨hkl, hy⟩, by show L.length - (k + 1) < L.length - k; omega, hf.to (by repeat (first | exact trivial | refine ⟨rfl, ?_⟩)), ?_⟩
    show Sat κ w (engO b (runL Eng.empty (L.take (k + 1))) y.1 cs)
    rw [hrun]; exact hs
  have hkl : k = L.length := by have : ¬ (k : Int) < L.length := of_decide_eq_false hc; omega
  subst hkl
  have hW := hWk L.length (Nat.le_refl _)
  generalize runL Eng.empty (L.take L.length) = E at *
  refine .xgo ?_
  repeat refine .seq ?_
  refine .reg ?_
  refine .mv ?_
  refine .ce (ecopy_tr b E ik hik (by omega) hW κ _) (fun j hj => ?_)
  generalize j.1 = bw at *
  generalize j.2 = iw at *
  refine .sat (fun w hs => eng_swap hs) ?_
  refine .as ?_
  refine .go ?_
  refine .jn (ι := Int) (fun k' => [(0, .slice p L.length cap), (1, .int .i64 k'), (4, .bool false), (5, .pointer (some ⟨b, 0, none⟩)), (8, .pointer (some ⟨bw, 0, none⟩))]) (fun _ => engO b E ik (engO bw E iw cs)) (fun k' => k' ≠ 1 ∧ k' ≠ 2 ∧ k' ≠ 3) ?_ fun k' hk' => ?_
  · repeat refine .seq ?_
    refine .reg ?_
    refine .mv ?_
    refine .ge ?_
    refine .mv ?_
    by_cases h1 : (1 : Int) ≤ kd
    · rw [decide_eq_true h1]
      refine .mv ?_
      refine .le ?_
      by_cases h3 : kd ≤ 3
      · rw [decide_eq_true h3]
        first | refine .pt ?_ | refine .pf ?_
        refine .go ?_
        refine .cond rfl (fun hc => ?_) (fun hc => by cases hc)
        refine .reg ?_
        refine .as ?_
        exact .nil fun aa w hf hs => ⟨0, by decide, hf.to (by repeat (first | exact trivial | refine ⟨rfl, ?_⟩)), hs⟩
      · rw [decide_eq_false h3]
        first | refine .pt ?_ | refine .pf ?_
        refine .go ?_
        refine .cond rfl (fun hc => by cases hc) (fun hc => ?_)
        exact .skip fun aa w hf hs => ⟨kd, by omega, hf.to (by repeat (first | exact trivial | refine ⟨rfl, ?_⟩)), hs⟩
    · rw [decide_eq_false h1]
      repeat refine .skip ?_
      first | refine .pt ?_ | refine .pf ?_
      refine .go ?_
      refine .cond rfl (fun hc => by cases hc) (fun hc => ?_)
      exact .skip fun aa w hf hs => ⟨kd, by omega, hf.to (by repeat (first | exact trivial | refine ⟨rfl, ?_⟩)), hs⟩
  repeat refine .seq ?_
  refine .reg ?_
  refine .mv ?_
  refine .mv ?_
  refine .mv ?_
  refine .cl (nowE_tr b E ik κ _) ?_
  refine .adw ?_
  refine .bd (r := reqC (kindR k' (addK .i64 E.now 5))) ?_ ⟨inferInstance, inferInstance, rfl, by kernel_rfl⟩
  refine .ce (refuse_tr b E ik hik (by omega) hW k' (addK .i64 E.now 5) (wrap_le _).2 ⟨hk'.1, hk'.2.1, fun h => hk'.2.2 h.1⟩ κ hκ _) (fun y hy => ?_)
  generalize y.1 = i2 at *
  generalize y.2.1 = p2
  generalize y.2.2 = c2
  refine .mv ?_
  refine .ex ?_
  refine .ex ?_
  refine .as ?_
  refine .as ?_
  refine .go ?_
  repeat refine .seq ?_
  refine .reg ?_
  refine .mv ?_
  refine .mv ?_
  refine .cl (nowE_tr b E i2 κ _) ?_
  refine .bd (r := reqC (kindR 3 E.now)) ?_ ⟨inferInstance, inferInstance, rfl, by kernel_rfl⟩
  refine .ce (refuse_tr b E i2 hy (by omega) hW 3 E.now hW.hnow.2 ⟨by decide, by decide, fun h => Int.lt_irrefl _ h.2⟩ κ hκ _) (fun z hz => ?_)
  generalize z.1 = i3 at *
  generalize z.2.1 = p3
  generalize z.2.2 = c3
  refine .mv ?_
  refine .ex ?_
  refine .ex ?_
  refine .as ?_
  refine .as ?_
  refine .go ?_
  repeat refine .seq ?_
  refine .reg ?_
  refine .mv ?_
  refine .eq ?_
  refine .mv ?_
  refine .mv ?_
  refine .eq ?_
  first | refine .pt ?_ | refine .pf ?_
  refine .mv ?_
  refine .mv ?_
  refine .ln ?_
  refine .mv ?_
  refine .ln ?_
  refine .ad ?_
  refine .eq ?_
  first | refine .pt ?_ | refine .pf ?_
  refine .mv ?_
  refine .mv ?_
  refine .mv ?_
  refine .cl (alike_tr b bw E E i3 iw hW hW κ _) ?_
  rw [alike_self]
  first | refine .pt ?_ | refine .pf ?_
  refine .as ?_
  refine .go ?_
  refine .r1 fun w hs => ?_
  exact ⟨rfl, eng_drop (eng_drop hs)⟩
end Go.Proofs.YtpcechnalfaajaaDoor

/- The law EngineCopies. -/
namespace Go.Proofs.YtpcechnalfaajaaDoor
open Go Go.Proofs

set_option maxHeartbeats 4000000 in
theorem copies_tr (L M : List Req) (p p' : Option Addr) (cap cap' : Nat) (hcap : L.length ≤ cap) (hcap' : M.length ≤ cap') (κ : Kap) (hκ : Laid κ) (hL : ReqsOk κ p L) (hM : ReqsOk κ p' M) (cs : List HProp) : Tr Tryd.prog 12 [.slice p L.length cap, .slice p' M.length cap'] κ cs (.bool true) cs := by
  refine .enter Tryd.func12 rfl rfl ?_
  repeat refine .seq ?_
  refine .reg ?_
  refine .as ?_
  refine .go ?_
  repeat refine .seq ?_
  refine .reg ?_
  refine .cl (fit_tr κ hκ _) ?_
  refine .nt ?_
  refine .go ?_
  refine .cond rfl (fun hc => by cases hc) (fun hc => ?_)
  refine .go ?_
  repeat refine .seq ?_
  refine .reg ?_
  refine .mv ?_
  refine .cl (light_tr L p cap hcap κ hL _) ?_
  have hend : ∀ w, Sat κ w cs → Sat κ w cs := fun _ h => h
  cases hl1 : lightL L with
  | false =>
    refine .nt ?_
    refine .mv ?_
    repeat refine .skip ?_
    repeat refine .skip ?_
    repeat refine .skip ?_
    first | refine .pt ?_ | refine .pf ?_
    refine .go ?_
    refine .cond rfl (fun hc => ?_) (fun hc => by cases hc)
    repeat refine .seq ?_
    refine .reg ?_
    refine .as ?_
    refine .go ?_
    refine .r1 fun w hs => ?_
    exact ⟨rfl, hs⟩
  | true =>
  refine .nt ?_
  refine .mv ?_
  refine .mv ?_
  refine .cl (light_tr M p' cap' hcap' κ hM _) ?_
  cases hl2 : lightL M with
  | false =>
    refine .nt ?_
    first | refine .pt ?_ | refine .pf ?_
    refine .go ?_
    refine .cond rfl (fun hc => ?_) (fun hc => by cases hc)
    repeat refine .seq ?_
    refine .reg ?_
    refine .as ?_
    refine .go ?_
    refine .r1 fun w hs => ?_
    exact ⟨rfl, hs⟩
  | true =>
  have h60 := light_60 hl1
  have k60 := light_60 hl2
  refine .nt ?_
  first | refine .pt ?_ | refine .pf ?_
  refine .go ?_
  refine .cond rfl (fun hc => by cases hc) (fun hc => ?_)
  refine .go ?_
  repeat refine .seq ?_
  refine .reg ?_
  refine .ce (newO_tr κ _) (fun x hx => ?_)
  generalize x.1 = b at *
  generalize x.2 = i0 at *
  refine .ce (newO_tr κ _) (fun y hy => ?_)
  generalize y.1 = b2 at *
  generalize y.2 = j0 at *
  refine .sat (fun w hs => eng_swap hs) ?_
  refine .as ?_
  refine .as ?_
  refine .go ?_
  repeat refine .seq ?_
  refine .reg ?_
  refine .mv ?_
  refine .ln ?_
  refine .mv ?_
  refine .go ?_
  repeat refine .seq ?_
  refine .block ?_
  have hfr : ∀ q ∈ L, q.from_ ≤ 9223372036854775807 := fun q hq => (hL.fr q hq).2
  have hfr' : ∀ q ∈ M, q.from_ ≤ 9223372036854775807 := fun q hq => (hM.fr q hq).2
  have hWk : ∀ k, k ≤ L.length → EngW (512 * k) (runL Eng.empty (L.take k)) := fun k hk => (runL_w2 (L.take k) empty_w (fun q hq => hfr q (List.mem_of_mem_take hq))).mono (by rw [List.length_take]; omega)
  refine .lp (fun x : Nat × EngI × EngI => [(0, .slice p L.length cap), (1, .slice p' M.length cap'), (4, .bool false), (5, .pointer (some ⟨b, 0, none⟩)), (6, .pointer (some ⟨b2, 0, none⟩)), (26, .slice p L.length cap), (27, .int .i64 L.length), (28, .int .i64 x.1)])
    (fun x => engO b (runL Eng.empty (L.take x.1)) x.2.1 (engO b2 (runL Eng.empty (L.take x.1)) x.2.2 cs)) (fun x => x.1 ≤ L.length ∧ x.2.1.lb.length = (runL Eng.empty (L.take x.1)).rws.length ∧ x.2.2.lb.length = (runL Eng.empty (L.take x.1)).rws.length) (fun x => L.length - x.1) (0, i0, j0) ⟨Nat.zero_le _, hx, hy⟩ (by repeat (first | exact trivial | refine ⟨rfl, ?_⟩)) rfl fun x hx => ?_
  obtain ⟨k, ik, jk⟩ := x
  obtain ⟨hk, hik, hjk⟩ := hx
  simp only at hk hik hjk
  refine .fra (fr' := [(0, .slice p L.length cap), (1, .slice p' M.length cap'), (4, .bool false), (5, .pointer (some ⟨b, 0, none⟩)), (6, .pointer (some ⟨b2, 0, none⟩)), (26, .slice p L.length cap), (27, .int .i64 L.length), (28, .int .i64 k)]) (by repeat (first | exact trivial | refine ⟨rfl, ?_⟩)) ?_
  refine .sat (cs' := engO b (runL Eng.empty (L.take k)) ik (engO b2 (runL Eng.empty (L.take k)) jk cs)) (fun w hs => hs) ?_
  repeat refine .seq ?_
  refine .reg ?_
  refine .lt ?_
  refine .go ?_
  repeat refine .seq ?_
  refine .cond rfl (fun hc => ?_) (fun hc => ?_)
  · have hkl : k < L.length := by have : (k : Int) < L.length := of_decide_eq_true hc; omega
    have hmem := List.getElem_mem hkl
    have hrun := runL_take (e := Eng.empty) hkl
    rcases hL.rd with h | ⟨bl, o, rfl, hr⟩
    · exfalso
      have := congrArg List.length h
      rw [flat_len reqC 8 reqC_len] at this
      simp at this; omega
    have hWk0 := hWk k hk
    generalize runL Eng.empty (L.take k) = E at *
    refine .sat (cs' := isK κ :: engO b E ik (engO b2 E jk cs)) (fun w hs => hs.isK) ?_
    haveI : RdAt bl (isK κ :: engO b E ik (engO b2 E jk cs)) o (L.flatMap reqC) := .ofK hr
    refine .go ?_
    repeat refine .seq ?_
    refine .block ?_
    repeat refine .seq ?_
    refine .reg ?_
    refine .ix ?_
    refine .lx (req_get L k hkl) ?_
    generalize hq : L[k] = q at *
    refine .al fun b8 => ?_
    refine .stw (v := .agg (reqC q).toArray) ?_
    rw [vc_agg]
    refine .go ?_
    repeat refine .seq ?_
    refine .reg ?_
    refine .mv ?_
    refine .ldw ?_
    refine .cl (tame_tr q (hL.ac q hmem).2 (hL.tr q hmem).2 κ _) ?_
    refine .sat (cs' := engO b E ik (pts b8 (41, reqC q) :: engO b2 E jk cs)) (fun w hs => (hs.pm 2 [0]).imp fun _ hg => (eng_back [_]).1 hg) ?_
    refine .ce (applyQ_tr b E ik hik (by omega) hWk0 q κ hκ (hL.ac q hmem).1 (hL.tr q hmem).1 (hfr q hmem) _) (fun y hy => ?_)
    rw [← hrun] at hy ⊢
    generalize y.1 = i1 at *
    generalize y.2 = v35
    refine .sat (cs' := pts b8 (41, reqC q) :: engO b2 E jk (engO b (runL Eng.empty (L.take (k + 1))) i1 cs)) (fun w hs => (hs.imp fun _ hg => (eng_back [_]).2 hg : Sat κ w (pts b8 (41, reqC q) :: _)).imp fun _ hg => sepL_tails (F := [_]) (fun _ hg => eng_swapH hg) hg) ?_
    refine .go ?_
    repeat refine .seq ?_
    refine .reg ?_
    refine .mv ?_
    refine .ldw ?_
    refine .cl (tame_tr q (hL.ac q hmem).2 (hL.tr q hmem).2 κ _) ?_
    refine .sat (fun w hs => hs.rows) ?_
    refine .ce (applyQ_tr b2 E jk hjk (by omega) hWk0 q κ hκ (hL.ac q hmem).1 (hL.tr q hmem).1 (hfr q hmem) _) (fun z hz => ?_)
    rw [← hrun] at hz ⊢
    refine .go ?_
    refine .reg ?_
    refine .ad ?_
    refine .mv ?_
    exact .nil fun aa w hf hs => ⟨(k + 1, i1, z.1), ⟨hkl, hy, hz⟩, by show L.length - (k + 1) < L.length - k; omega, hf.to (by repeat (first | exact trivial | refine ⟨rfl, ?_⟩)), eng_swap hs⟩
  have hkl : k = L.length := by have : ¬ (k : Int) < L.length := of_decide_eq_false hc; omega
  subst hkl
  have hW := (hWk L.length (Nat.le_refl _)).mono (show 512 * L.length ≤ 30720 by omega)
  generalize runL Eng.empty (L.take L.length) = E at *
  refine .xgo ?_
  repeat refine .seq ?_
  refine .reg ?_
  refine .mv ?_
  refine .ce (ecopy_tr b E ik hik (by omega) hW κ _) (fun j hj => ?_)
  generalize j.1 = bc at *
  generalize j.2 = ic0 at *
  refine .as ?_
  refine .go ?_
  repeat refine .seq ?_
  refine .reg ?_
  refine .mv ?_
  refine .ln ?_
  refine .mv ?_
  refine .go ?_
  repeat refine .seq ?_
  refine .block ?_
  have hWm : ∀ k, k ≤ M.length → EngW (30720 + 512 * k) (runL E (M.take k)) := fun k hk => (runL_w2 (M.take k) hW (fun q hq => hfr' q (List.mem_of_mem_take hq))).mono (by rw [List.length_take]; omega)
  refine .lp (fun x : Nat × EngI => [(0, .slice p L.length cap), (1, .slice p' M.length cap'), (4, .bool false), (5, .pointer (some ⟨b, 0, none⟩)), (6, .pointer (some ⟨b2, 0, none⟩)), (9, .pointer (some ⟨bc, 0, none⟩)), (43, .slice p' M.length cap'), (44, .int .i64 M.length), (45, .int .i64 x.1)])
    (fun x => engO bc (runL E (M.take x.1)) x.2 (engO b E ik (engO b2 E jk cs))) (fun x => x.1 ≤ M.length ∧ x.2.lb.length = (runL E (M.take x.1)).rws.length) (fun x => M.length - x.1) (0, ic0) ⟨Nat.zero_le _, hj⟩ (by repeat (first | exact trivial | refine ⟨rfl, ?_⟩)) rfl fun x hx => ?_
  obtain ⟨k, ic⟩ := x
  obtain ⟨hk, hic⟩ := hx
  simp only at hk hic
  refine .fra (fr' := [(0, .slice p L.length cap), (1, .slice p' M.length cap'), (4, .bool false), (5, .pointer (some ⟨b, 0, none⟩)), (6, .pointer (some ⟨b2, 0, none⟩)), (9, .pointer (some ⟨bc, 0, none⟩)), (43, .slice p' M.length cap'), (44, .int .i64 M.length), (45, .int .i64 k)]) (by repeat (first | exact trivial | refine ⟨rfl, ?_⟩)) ?_
  refine .sat (cs' := engO bc (runL E (M.take k)) ic (engO b E ik (engO b2 E jk cs))) (fun w hs => hs) ?_
  repeat refine .seq ?_
  refine .reg ?_
  refine .lt ?_
  refine .go ?_
  repeat refine .seq ?_
  refine .cond rfl (fun hc => ?_) (fun hc => ?_)
  · have hkl : k < M.length := by have : (k : Int) < M.length := of_decide_eq_true hc; omega
    have hmem := List.getElem_mem hkl
    have hrun := runL_take (e := E) hkl
    rcases hM.rd with h | ⟨bl, o, rfl, hr⟩
    · exfalso
      have := congrArg List.length h
      rw [flat_len reqC 8 reqC_len] at this
      simp at this; omega
    have hWk0 := hWm k hk
    generalize runL E (M.take k) = F at *
    generalize hX : engO b E ik (engO b2 E jk cs) = X at *
    refine .sat (cs' := isK κ :: engO bc F ic X) (fun w hs => hs.isK) ?_
    haveI : RdAt bl (isK κ :: engO bc F ic X) o (M.flatMap reqC) := .ofK hr
    refine .go ?_
    repeat refine .seq ?_
    refine .block ?_
    repeat refine .seq ?_
    refine .reg ?_
    refine .ix ?_
    refine .lx (req_get M k hkl) ?_
    generalize hq : M[k] = q at *
    refine .al fun b11 => ?_
    refine .stw (v := .agg (reqC q).toArray) ?_
    rw [vc_agg]
    refine .go ?_
    repeat refine .seq ?_
    refine .reg ?_
    refine .mv ?_
    refine .ldw ?_
    refine .cl (tame_tr q (hM.ac q hmem).2 (hM.tr q hmem).2 κ _) ?_
    refine .sat (cs' := engO bc F ic X) (fun w hs => hs.rows.rows) ?_
    refine .ce (applyQ_tr bc F ic hic (by omega) hWk0 q κ hκ (hM.ac q hmem).1 (hM.tr q hmem).1 (hfr' q hmem) _) (fun y hy => ?_)
    rw [← hrun] at hy ⊢
    refine .go ?_
    refine .reg ?_
    refine .ad ?_
    refine .mv ?_
    exact .nil fun aa w hf hs => ⟨(k + 1, y.1), ⟨hkl, hy⟩, by show M.length - (k + 1) < M.length - k; omega, hf.to (by repeat (first | exact trivial | refine ⟨rfl, ?_⟩)), hs⟩
  generalize runL E (M.take k) = F at *
  refine .xgo ?_
  repeat refine .seq ?_
  refine .reg ?_
  refine .mv ?_
  refine .sat (fun w hs => eng_drop hs) ?_
  refine .ce (accounts_tr b E ik hW.idx.1 hW.idx.2 κ _) (fun j1 _ => ?_)
  have hl1 : E.accounts.length < 700 := by unfold Eng.accounts; rw [List.length_map]; exact hW.idx.2
  have hrise := acc_rise hW
  have hsw : ∀ X, Sat κ X (engO b E ik (engO b2 E jk cs)) → Sat κ X cs := fun _ h => eng_drop (eng_drop h)
  generalize E.accounts = A at *
  obtain ⟨q1, c1⟩ := j1
  refine .as ?_
  refine .go ?_
  refine .slq (p := q1) (n0 := A.length) (cap := c1) (sz := 46) (fun hp1 => ?_)
  repeat refine .seq ?_
  refine .reg ?_
  refine .as ?_
  refine .go ?_
  repeat refine .seq ?_
  refine .block ?_
  refine .lp (fun k : Nat => [(4, .bool false), (5, .pointer (some ⟨b, 0, none⟩)), (6, .pointer (some ⟨b2, 0, none⟩)), (12, .slice q1 A.length c1), (13, .int .i64 (k + 1 : Nat))])
    (fun _ => sl 46 (.slice q1 A.length c1) (37, A.flatMap encA) :: engO b E ik (engO b2 E jk cs)) (fun k => k ≤ A.length) (fun k => A.length - k) 0 (Nat.zero_le _) (by repeat (first | exact trivial | refine ⟨rfl, ?_⟩)) rfl fun k hk => ?_
  repeat refine .seq ?_
  refine .reg ?_
  refine .mv ?_
  refine .mv ?_
  refine .ln ?_
  refine .lt ?_
  refine .go ?_
  repeat refine .seq ?_
  refine .cond rfl (fun hc => ?_) (fun hc => ?_)
  · have hkl : k + 1 < A.length := by have : ((k + 1 : Nat) : Int) < A.length := of_decide_eq_true hc; omega
    obtain ⟨r1, rfl⟩ : ∃ b, q1 = some ⟨b, 0, none⟩ := hp1.resolve_left (by omega)
    have hlt : A[k].id.toNat < A[k + 1].id.toNat := List.pairwise_iff_getElem.1 hrise k (k + 1) (by omega) hkl (by omega)
    have g1 : getV true (A.flatMap encA) ((((k + 1 : Nat) : Int) - 1).toNat * 46 + 0) 2 = some (.agg (nm A[k].id).toArray) := by
      rw [show ((((k + 1 : Nat) : Int) - 1).toNat) = k by omega]
      exact flat_get encA 46 encA_len A k 0 2 true _ (by omega) rfl
    have g2 : getV true (A.flatMap encA) (((k + 1 : Nat) : Int).toNat * 46 + 0) 2 = some (.agg (nm A[k + 1].id).toArray) :=
      flat_get encA 46 encA_len A (k + 1) 0 2 true _ hkl rfl
    refine .go ?_
    repeat refine .seq ?_
    refine .block ?_
    repeat refine .seq ?_
    refine .regD [(r1, 0, A.flatMap encA)] [] ?_
    refine .mv 0 ?_
    refine .mv 1 ?_
    refine .sb 2 ?_
    refine .ix 3 ?_
    refine .fa 4 ?_
    refine .lx 5 g1 ?_
    refine .mv 6 ?_
    refine .mv 7 ?_
    refine .ix 8 ?_
    refine .fa 9 ?_
    refine .lx 10 g2 ?_
    refine .cl 11 (compare_tr A[k].id A[k + 1].id κ _) ?_
    rw [show cmpN A[k].id A[k + 1].id = -1 from if_pos hlt]
    refine .ge 12 ?_
    refine .go ?_
    refine .cond rfl (fun hc => by cases hc) (fun hc => ?_)
    refine .go ?_
    refine .reg ?_
    refine .mv ?_
    refine .ad ?_
    refine .as ?_
    exact .nil fun aa w hf hs => ⟨k + 1, by omega, by omega, hf.to (by repeat (first | exact trivial | refine ⟨rfl, ?_⟩)), hs⟩
  refine .xgo ?_
  repeat refine .seq ?_
  refine .reg ?_
  refine .mv ?_
  refine .mv ?_
  refine .sat (fun w hs => hs.rows) ?_
  refine .cl (alike_tr b b2 E E ik jk hW hW κ _) ?_
  rw [alike_self]
  refine .as ?_
  refine .go ?_
  refine .r1 fun w hs => ?_
  exact ⟨rfl, hsw w hs⟩
end Go.Proofs.YtpcechnalfaajaaDoor

/- EngineCopies: the row and the card. -/
namespace Go.Proofs.YtpcechnalfaajaaDoor
open Go Go.Proofs Go.ChangeShapes Go.WideShapes Go.ChangeAt Go.WideMaps Go.WideElems Go.RowKit

set_option maxRecDepth 100000 in
theorem engineCopies_lifted (os : Os) (started : os.Started) (H : Type) (enc : TypeId × Value → H) :
    ReturnsInHanded {} Tryd.checked os 12 .any (fun w args => (Rows.engineCopiesSpec.pre enc Tryd.prog Tryd.f12 [] false w args ∧ laidMetH Tryd.prog laid4 w) ∧ sizedMet enc Tryd.prog Tryd.f12 (OpenSpec.ofChange Rows.engineCopiesSpec) false w args)
      (Rows.engineCopiesSpec.post enc Tryd.prog Tryd.f12 false true false false) := by
  refine returnsInHanded_of_change_and (C := Tryd.checked) (X := fun w _ => laidMetH Tryd.prog laid4 w) (fun _ _ _ hh h => h.of_heap hh) own started (by kernel_rfl) Tryd.func12
    (ChangeSpec.witness_shaped (enc := enc) (C := Tryd.checked) (os := os) (X := fun w _ => laidMetH Tryd.prog laid4 w) false (World.doorLaid Tryd.prog 4000 os) #[.slice none 0 0, .slice none 0 0] 8 rfl (World.shaped_of_RefB (by kernel_rfl) (by kernel_rfl)) (by kernel_rfl) (by kernel_rfl) (by kernel_rfl) (door_met os _)) ?_
  intro W base args ds gs before hval0 hW _ _ hL _
  have hval : ∀ (j : Nat) t v, (Tryd.f12).params[j]? = some t → args[j]? = some v → Value.okWide Tryd.prog W .any base t v := hval0
  have hW' := hW
  obtain ⟨p, q, hA0, hV, rfl, hfz, hnd⟩ := hW
  have hA : DataW.TrodAll enc Tryd.prog W 0 (fun _ => true) true (Tryd.f12).params.toList args.toList ds p := hA0
  rw [Tryd.params12] at hA hval
  obtain ⟨v0, v1, d0, d1, p0, p1, rfl, rfl, rfl, h0, h1⟩ := trodAll_two hA
  obtain ⟨L_p, L, L_c, rfl, L_h, L_k⟩ := reqs_of (hval 0 _ _ rfl rfl) h0
  obtain ⟨M_p, M, M_c, rfl, M_h, M_k⟩ := reqs_of (hval 1 _ _ rfl rfl) h1
  refine (copies_tr L M L_p M_p L_c M_c L_h M_h (kapOf W) (of_laid hL) L_k M_k [] W (sat_of W)).mono fun e W' ⟨he, hs⟩ => ?_
  subst he
  refine ⟨_, rfl, post_true (tb := 4) laidOut hW' rfl rfl (below_of hs) ?_ (by kernel_rfl) (by kernel_rfl)⟩
  rw [Tryd.params12]
  intro t ht
  have hall : ([62, 62].all fun u => Tryd.prog.readableRec u && decide (u < Tryd.prog.types.size)) = true := by kernel_rfl
  have h5 := List.all_eq_true.1 hall t ht
  rw [Bool.and_eq_true] at h5
  exact ⟨h5.1, of_decide_eq_true h5.2⟩
theorem engineCopies_holds : Rows.EngineCopiesSaid :=
  OpenClaim.holds_of_wide 12 Tryd.f12 rfl rfl rfl rfl rfl rfl rfl ⟨rfl, rfl, rfl, rfl, rfl⟩ rfl rfl rfl rfl rfl (by kernel_rfl) Tryd.func12 (by kernel_rfl)
    (of_decide_eq_true (by kernel_rfl)) (by unfold Func.isWrapper; first | (rw [if_pos (by decide +kernel)]; kernel_rfl) | (rw [if_neg (by decide +kernel)]; exact ⟨rfl, rfl⟩))
    (fun os started H enc _ => engineCopies_lifted os started H enc)
theorem engineCopiesCard_holds : Rows.EngineCopiesCardSaid :=
  Claim7.holds_tied_plain_at .later [] [.data, .data, .widerDeep, .widerDeep] true (true, "de20976bb9abc0c7ddf704fc18d7d4f424036e793db8338a9ccbe2b467d619fd") false
    engineCopies_holds (fun _ h => by cases h) (by kernel_rfl) (fun _ h => by cases h) engineCopies_row_tie rfl ⟨rfl, rfl⟩ (by kernel_rfl) rfl
    (fun f fn hf hfn => by
      obtain rfl : f = 12 := Option.some.inj ((show Tryd.prog.funcNamed "pacioli/paciolilaw11.EngineCopies" = some 12 by kernel_rfl).symm.trans hf) |>.symm
      obtain rfl : fn = Tryd.f12 := (Option.some.inj (Tryd.func12.symm.trans hfn)).symm
      exact ⟨by kernel_rfl, fun j t ht => by
        rw [Tryd.params12] at ht
        have hm : t ∈ [62, 62] := by simpa using Array.mem_of_getElem? ht
        have hall : ([62, 62].all fun u => !Tryd.prog.wantsStandIn u) = true := by kernel_rfl
        exact (show Tryd.prog.wantsStandIn t = false by simpa using List.all_eq_true.1 hall t hm)⟩)
    (by kernel_rfl)
#print axioms engineCopiesCard_holds
end Go.Proofs.YtpcechnalfaajaaDoor
