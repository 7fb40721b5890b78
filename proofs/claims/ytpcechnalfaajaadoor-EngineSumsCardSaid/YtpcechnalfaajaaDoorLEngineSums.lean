/- on each ledger debits are credits, posted and pending ones; accounts are within their limits. Conditions: the laid package variables of sha and history hold what their own initialisers give them. -/
import Derived.Test.YtpcechnalfaajaaDoorP8
import Derived.Test.YtpcechnalfaajaaDoorP9
import Derived.Test.YtpcechnalfaajaaDoorP7
import Derived.Test.YtpcechnalfaajaaDoorP5
import Derived.Maps.RangeRun
import Derived.Test.YtpcechnalfaajaaDoorTie
import Derived.Test.YtpcechnalfaajaaDoorCards
import Derived.SevenTiedAt
/- EngineSteps' plain law. -/
namespace Go.Proofs.YtpcechnalfaajaaDoor
open Go Go.Proofs

def stT (n : Num) : Transfer := ⟨1, 1, 2, n, 0, 5, 1, 2, 0, 0, 0⟩
def stS (id pid part : Num) (void : Bool) : Transfer := ⟨id, 0, 0, part, pid, 0, 0, if void then 8 else 4, 0, 0, 0⟩
def stE1 (n : Num) (w1 w2 : Int) (h1 h2 : Hash) (s : Row) : Eng :=
  Two ⟨1, 1, 0, n, 0, 0, 0, 1, w1, h1⟩ ⟨2, 1, 0, 0, 0, n, 0, 2, w2, h2⟩ [{ stT n with time := 3, state := 1 }] [⟨1, 3, 2, n, n, 0, 0, 0⟩] [s] 3 0
theorem steps_one (n : Num) : ∃ w1 w2 h1 h2 s, do1 two0 (stT n) = (stE1 n w1 w2 h1 h2 s, 0) := by
  obtain ⟨z1, z2, z3, z4⟩ := addN_zero n
  have a1 : addN [acc1.dp, n] = n := z1
  have a2 : addN [acc2.cp, n] = n := z1
  have hf := first_pend acc1 acc2 [] [] [] 2 0 (stT n) n (by kernel_rfl) (by kernel_rfl) z3 z3 (by rw [a1]; exact z4) (by rw [a2]; exact z4) (within0 (by kernel_rfl) (by kernel_rfl)) (within0 (by kernel_rfl) (by kernel_rfl))
  rw [a1, a2] at hf
  have c1 : firC (stT n) 64 { acc1 with dp := n } = { acc1 with dp := n } := by kernel_rfl
  have c2 : firC (stT n) 128 { acc2 with cp := n } = { acc2 with cp := n } := by kernel_rfl
  rw [c1, c2, add_two] at hf
  have hm : two0.makeTransfer (stT n) = two0.first (stT n) 0 1 := by kernel_rfl
  rw [do1_eq (by kernel_rfl), hm, show two0.first (stT n) 0 1 = _ from hf, if_pos rfl]
  exact ⟨1, 1, rootN ([rowOf 1 3 (bclr (stT n).flags 1) n { acc1 with dp := n }].map leafR), rootN ([rowOf 1 3 (bclr (stT n).flags 1) n { acc2 with cp := n }].map leafR), rowOf 1 3 (bclr (stT n).flags 1) n { acc2 with cp := n }, by kernel_rfl⟩
/-- What a tick at 5 does. -/
def stE2 (n : Num) (w1 w2 : Int) (h1 h2 : Hash) (r2 s s2 : Row) : Eng :=
  Two ⟨1, 1, 0, 0, 0, 0, 0, 1, w1, h1⟩ ⟨2, 1, 0, 0, 0, 0, 0, 2, w2, h2⟩ [{ stT n with time := 3, state := 4 }] [⟨1, 3, 2, n, n, 0, 0, 0⟩, r2] [s, s2] 4 5
theorem steps_tick (n : Num) (w1 w2 : Int) (h1 h2 : Hash) (s : Row) : ∃ v1 v2 g1 g2 r2 s2, (stE1 n w1 w2 h1 h2 s).tick 5 = stE2 n v1 v2 g1 g2 r2 s s2 := by
  have hz := subN_self n
  have hr := release_two ⟨1, 1, 0, n, 0, 0, 0, 1, w1, h1⟩ ⟨2, 1, 0, 0, 0, n, 0, 2, w2, h2⟩ [{ stT n with time := 3, state := 1 }] [⟨1, 3, 2, n, n, 0, 0, 0⟩] [s] 3 5 { stT n with time := 3, state := 1 } n true
  have f1 : ¬ (true = true ∧ band ({ stT n with time := 3, state := 1 } : Transfer).flags 64 ≠ 0) := fun h => h.2 (by kernel_rfl)
  have f2 : ¬ (true = true ∧ band ({ stT n with time := 3, state := 1 } : Transfer).flags 128 ≠ 0) := fun h => h.2 (by kernel_rfl)
  rw [if_neg f1, if_neg f2, hz] at hr
  have ht : (stE1 n w1 w2 h1 h2 s).tick 5 = ({ ((Two ⟨1, 1, 0, n, 0, 0, 0, 1, w1, h1⟩ ⟨2, 1, 0, 0, 0, n, 0, 2, w2, h2⟩ [{ stT n with time := 3, state := 1 }] [⟨1, 3, 2, n, n, 0, 0, 0⟩] [s] 3 5).release { stT n with time := 3, state := 1 } n 0 1 true).setState 0 4 with time := 4 } : Eng).row 1 (-1) n [0, 1] := by kernel_rfl
  rw [ht, hr]
  exact ⟨2, _, rootN (([⟨1, 3, 2, n, n, 0, 0, 0⟩, rowOf 1 4 (-1) n ⟨1, 1, 0, 0, 0, 0, 0, 1, w1, h1⟩] : List Row).map leafR), rootN (([s, rowOf 1 4 (-1) n ⟨2, 1, 0, 0, 0, 0, 0, 2, w2, h2⟩] : List Row).map leafR), rowOf 1 4 (-1) n ⟨1, 1, 0, 0, 0, 0, 0, 1, w1, h1⟩, rowOf 1 4 (-1) n ⟨2, 1, 0, 0, 0, 0, 0, 2, w2, h2⟩, rfl⟩
def stWant (tick void : Bool) (n part : Num) : Int := if tick = true then 23 else if part ≠ 0 ∧ (n.toNat < part.toNat ∨ (part.toNat < n.toNat ∧ void = true)) then 24 else 0
def stPre (tick : Bool) (n : Num) : Eng := if tick = true then (do1 two0 (stT n)).1.tick 5 else (do1 two0 (stT n)).1
def stPosted (tick void : Bool) (n part : Num) : Num := if stWant tick void n part = 0 ∧ void = false then (if part = 0 then n else part) else 0
def stHeld (tick void : Bool) (n part : Num) : Num := if stWant tick void n part = 24 then n else 0
theorem two_account1 {x y : Account} {T : List Transfer} {ra rb : List Row} {tm now : Int} (hx : x.id = 1) : (Two x y T ra rb tm now).account 1 = some x := by
  unfold Eng.account
  have : posN 1 (Two x y T ra rb tm now).ids = some 0 := if_pos hx
  rw [this]; rfl
theorem two_account2 {x y : Account} {T : List Transfer} {ra rb : List Row} {tm now : Int} (hx : x.id = 1) (hy : y.id = 2) : (Two x y T ra rb tm now).account 2 = some y := by
  unfold Eng.account
  have : posN 2 (Two x y T ra rb tm now).ids = some 1 := by
    show (if x.id = 2 then some 0 else (if y.id = 2 then some 0 else none).map (· + 1)) = some 1
    rw [if_neg (by rw [hx]; decide), if_pos hy]; rfl
  rw [this]; rfl
theorem do1_code {e : Eng} {t : Transfer} {c : Int} (h : band t.flags 1 = 0) (hc : (e.makeTransfer t).2 = c) : (do1 e t).2 = c := by
  rw [do1_eq h, hc]
  split
  · rename_i h; exact h.symm
  · rfl
theorem steps_end (E : Eng) (void : Bool) (h1 : (E.makeTransfer (stS 3 1 0 void)).2 = 22) (h2 : (E.makeTransfer (stS 3 2 0 void)).2 = 21) : (do1 E (stS 3 1 0 void)).2 = 22 ∧ (do1 (do1 E (stS 3 1 0 void)).1 (stS 3 2 0 void)).2 = 21 := by
  have hv1 : ∀ id pid p, band (stS id pid p void).flags 1 = 0 := fun id pid p => by cases void <;> kernel_rfl
  have e1 := do1_bad (hv1 3 1 0) h1 (by decide)
  rw [e1]
  exact ⟨rfl, do1_code (hv1 3 2 0) h2⟩
theorem steps_law (tick void : Bool) (n part : Num) : (do1 two0 (stT n)).2 = 0 ∧ (do1 (stPre tick n) (stS 2 1 part void)).2 = stWant tick void n part ∧
    (∃ a, (do1 (stPre tick n) (stS 2 1 part void)).1.account 1 = some a ∧ a.dq = stPosted tick void n part ∧ a.dp = stHeld tick void n part) ∧
    (∃ a, (do1 (stPre tick n) (stS 2 1 part void)).1.account 2 = some a ∧ a.cq = stPosted tick void n part ∧ a.cp = stHeld tick void n part) ∧
    (stWant tick void n part = 0 → (do1 (do1 (stPre tick n) (stS 2 1 part void)).1 (stS 3 1 0 void)).2 = 22 ∧ (do1 (do1 (do1 (stPre tick n) (stS 2 1 part void)).1 (stS 3 1 0 void)).1 (stS 3 2 0 void)).2 = 21) ∧
    (stWant tick void n part ≠ 0 → (do1 (do1 (stPre tick n) (stS 2 1 part void)).1 (stS 3 9 0 void)).2 = 20) := by
  obtain ⟨w1, w2, h1, h2, s, e1⟩ := steps_one n
  have hv1 : ∀ id pid p, band (stS id pid p void).flags 1 = 0 := fun id pid p => by cases void <;> kernel_rfl
  refine ⟨by rw [e1], ?_⟩
  cases tick with
  | true =>
    obtain ⟨v1, v2, g1, g2, r2, s2, e2⟩ := steps_tick n w1 w2 h1 h2 s
    have hpre : stPre true n = stE2 n v1 v2 g1 g2 r2 s s2 := by unfold stPre; rw [if_pos rfl, e1]; exact e2
    have hw : stWant true void n part = 23 := if_pos rfl
    have hp : stPosted true void n part = 0 := if_neg (by rw [hw]; intro h; cases h.1)
    have hh : stHeld true void n part = 0 := if_neg (by rw [hw]; decide)
    rw [hpre, hw, hp, hh]
    have e3 : do1 (stE2 n v1 v2 g1 g2 r2 s s2) (stS 2 1 part void) = (stE2 n v1 v2 g1 g2 r2 s s2, 23) := do1_bad (hv1 _ _ _) (by cases void <;> kernel_rfl) (by decide)
    rw [e3]
    exact ⟨rfl, ⟨⟨1, 1, 0, 0, 0, 0, 0, 1, v1, g1⟩, by kernel_rfl, rfl, rfl⟩, ⟨⟨2, 1, 0, 0, 0, 0, 0, 2, v2, g2⟩, by kernel_rfl, rfl, rfl⟩, fun h => absurd h (by decide), fun _ => do1_code (hv1 _ _ _) (by cases void <;> kernel_rfl)⟩
  | false =>
    have hpre : stPre false n = stE1 n w1 w2 h1 h2 s := by unfold stPre; rw [if_neg (by decide), e1]
    rw [hpre]
    have hm : (stE1 n w1 w2 h1 h2 s).makeTransfer (stS 2 1 part void) = (stE1 n w1 w2 h1 h2 s).second (stS 2 1 part void) := by cases void <;> kernel_rfl
    have hs := second_some (e := stE1 n w1 w2 h1 h2 s) (t := stS 2 1 part void) (p := { stT n with time := 3, state := 1 }) (k := 0) (held := n) (by kernel_rfl) (by kernel_rfl) (by kernel_rfl)
    have hN : secN (stS 2 1 part void) n = if part = 0 then n else part := rfl
    have hb8 : band (stS 2 1 part void).flags 8 ≠ 0 ↔ void = true := by cases void with
      | true => exact ⟨fun _ => rfl, fun _ => of_decide_eq_true (by kernel_rfl)⟩
      | false => exact ⟨fun h => absurd (show band (stS 2 1 part false).flags 8 = 0 by kernel_rfl) h, fun h => by cases h⟩
    have hE : secE (stS 2 1 part void) { stT n with time := 3, state := 1 } n = stWant false void n part := by
      have h24 : (n.toNat < (secN (stS 2 1 part void) n).toNat ∨ ((secN (stS 2 1 part void) n).toNat < n.toNat ∧ band (stS 2 1 part void).flags 8 ≠ 0)) ↔ (part ≠ 0 ∧ (n.toNat < part.toNat ∨ (part.toNat < n.toNat ∧ void = true))) := by
        rw [hN, hb8]
        by_cases h0 : part = 0
        · rw [if_pos h0]
          constructor
          · intro h; exfalso; rcases h with h | h <;> omega
          · intro h; exact absurd h0 h.1
        · rw [if_neg h0]
          exact ⟨fun h => ⟨h0, h⟩, fun h => h.2⟩
      unfold secE stWant
      rw [if_neg (show ¬ band (stT n).flags 2 = 0 from fun h => absurd (h.symm.trans (show band (stT n).flags 2 = 2 by kernel_rfl)) (by decide)), if_neg (show ¬ ((1 : Int) = 2 ∨ (1 : Int) = 3) by decide), if_neg (show ¬ (1 : Int) = 4 by decide), if_neg (by rw [show mis (stS 2 1 part void) { stT n with time := 3, state := 1 } = false from by cases void <;> kernel_rfl]; simp), if_neg (by decide : ¬ false = true)]
      simp only [h24]
    rw [hE] at hs
    by_cases hc : part ≠ 0 ∧ (n.toNat < part.toNat ∨ (part.toNat < n.toNat ∧ void = true))
    · have hw : stWant false void n part = 24 := (if_neg (by decide)).trans (if_pos hc)
      have hp : stPosted false void n part = 0 := if_neg (by rw [hw]; intro h; cases h.1)
      have hh : stHeld false void n part = n := if_pos hw
      rw [hw, if_pos (by decide)] at hs
      rw [hw, hp, hh]
      have e3 : do1 (stE1 n w1 w2 h1 h2 s) (stS 2 1 part void) = (stE1 n w1 w2 h1 h2 s, 24) := do1_bad (hv1 _ _ _) (by rw [hm, hs]) (by decide)
      rw [e3]
      exact ⟨rfl, ⟨⟨1, 1, 0, n, 0, 0, 0, 1, w1, h1⟩, by kernel_rfl, rfl, rfl⟩, ⟨⟨2, 1, 0, 0, 0, n, 0, 2, w2, h2⟩, by kernel_rfl, rfl, rfl⟩, fun h => absurd h (by decide), fun _ => do1_code (hv1 _ _ _) (by cases void <;> kernel_rfl)⟩
    · have hw : stWant false void n part = 0 := (if_neg (by decide)).trans (if_neg hc)
      have hh : stHeld false void n part = 0 := if_neg (by rw [hw]; decide)
      rw [hw, if_neg (by simp)] at hs
      have hd : (posN ({ stT n with time := 3, state := 1 } : Transfer).debit (stE1 n w1 w2 h1 h2 s).ids).getD 0 = 0 := by kernel_rfl
      have hcr : (posN ({ stT n with time := 3, state := 1 } : Transfer).credit (stE1 n w1 w2 h1 h2 s).ids).getD 0 = 1 := by kernel_rfl
      rw [hd, hcr, hN] at hs
      have e3 := do1_ok (hv1 _ _ _) (hm.trans hs)
      rw [e3, hw, hh]
      have hz := subN_self n
      generalize hk : (if part = 0 then n else part) = k at *
      cases void with
      | true =>
        have hp : stPosted false true n part = 0 := if_neg (fun h => by cases h.2)
        have hv := secF_void ⟨1, 1, 0, n, 0, 0, 0, 1, w1, h1⟩ ⟨2, 1, 0, 0, 0, n, 0, 2, w2, h2⟩ [{ stT n with time := 3, state := 1 }] [⟨1, 3, 2, n, n, 0, 0, 0⟩] [s] 3 0 (stS 2 1 part true) { stT n with time := 3, state := 1 } 0 n k (of_decide_eq_true (by kernel_rfl)) (by kernel_rfl)
        simp only at hv
        rw [hz, add_two] at hv
        rw [hp, show secF (stE1 n w1 w2 h1 h2 s) (stS 2 1 part true) _ 0 0 1 n k = _ from hv]
        exact ⟨rfl, ⟨_, two_account1 rfl, rfl, rfl⟩, ⟨_, two_account2 rfl rfl, rfl, rfl⟩, fun _ => steps_end _ _ (by kernel_rfl) (by kernel_rfl), fun h => absurd rfl h⟩
      | false =>
        have hp : stPosted false false n part = k := (if_pos ⟨hw, rfl⟩).trans hk
        have hv := secF_post ⟨1, 1, 0, n, 0, 0, 0, 1, w1, h1⟩ ⟨2, 1, 0, 0, 0, n, 0, 2, w2, h2⟩ [{ stT n with time := 3, state := 1 }] [⟨1, 3, 2, n, n, 0, 0, 0⟩] [s] 3 0 (stS 2 1 part false) { stT n with time := 3, state := 1 } 0 n k (by kernel_rfl) (of_decide_eq_true (by kernel_rfl))
        simp only at hv
        obtain ⟨q1, q2, q3, q4⟩ := addN_zero k
        rw [hz, q1, add_two] at hv
        rw [hp, show secF (stE1 n w1 w2 h1 h2 s) (stS 2 1 part false) _ 0 0 1 n k = _ from hv]
        exact ⟨rfl, ⟨_, two_account1 rfl, rfl, rfl⟩, ⟨_, two_account2 rfl rfl, rfl, rfl⟩, fun _ => steps_end _ _ (by kernel_rfl) (by kernel_rfl), fun h => absurd rfl h⟩
theorem two3_tr (b : Nat) (i : EngI) (hi : i.lb.length = Eng.empty.rws.length) (bq c : Nat) (κ : Kap) (hκ : Laid κ) (x y z : HProp) (cs : List HProp) :
    Te Tryd.prog 16 [.pointer (some ⟨b, 0, none⟩), .agg (reqC (reqA (some ⟨bq, 0, none⟩) [acctN 1, acctN 2] c)).toArray] κ (pts bq (37, [acctN 1, acctN 2].flatMap encA) :: x :: y :: z :: engO b Eng.empty i cs) (fun u : EngI × Value => u.1.lb.length = two0.rws.length)
      (fun u => u.2) (fun u => x :: y :: z :: engO b two0 u.1 cs) := fun w hs => by
  have h := applyF_tr [pts bq (37, [acctN 1, acctN 2].flatMap encA), x, y, z] b Eng.empty i hi (m := 0) (by omega) empty_w (reqA (some ⟨bq, 0, none⟩) [acctN 1, acctN 2] c) (by simp [reqA]) (by simp [reqA]) (by simp [reqA]) κ hκ [pts bq (37, [acctN 1, acctN 2].flatMap encA)] cs ⟨[], _, rfl⟩ (.inr ⟨bq, 0, rfl, .ofRd (h := .head)⟩) (.inl rfl)
  rw [two_apply] at h
  exact (h w hs).mono fun _ _ ⟨u, h0, h1, h2⟩ => ⟨(u.1, _), h0, h1, h2.rows.rows⟩
def tickR (t : Int) : Req := ⟨3, none, [], 0, none, [], 0, 0, 0, t, 0, 0⟩
theorem steps_apply (n : Num) : ((do1 two0 (stT n)).1.apply (tickR 5)).1.1 = (do1 two0 (stT n)).1.tick 5 := by
  obtain ⟨w1, w2, h1, h2, s, e1⟩ := steps_one n
  rw [e1]
  unfold Eng.apply
  rw [if_neg (show ¬ (tickR 5).kind = 1 by decide), if_neg (show ¬ (tickR 5).kind = 2 by decide), if_pos ⟨rfl, show (0 : Int) < 5 by decide⟩]
  rfl
theorem stPre_w (tk : Bool) (n : Num) : EngW 1204 (stPre tk n) := by
  have hw1 := do1_w two0_w (stT n)
  cases tk with
  | false => exact hw1.mono (by omega)
  | true =>
    have := apply_w hw1 (tickR 5) (by decide) (by decide) (by decide)
    rw [steps_apply] at this
    exact this
theorem Tr.efF3 {P : Program} {f : FuncId} {args : List Value} {κ : Kap} {b : Nat} {e : Eng} {i : EngI} {cs : List HProp} {v : Value} {x y z : HProp} (F : List HProp) (h : ∀ cs, Tr P f args κ (engO b e i cs) v (engO b e i cs)) : Tr P f args κ (F ++ x :: y :: z :: engO b e i cs) v (F ++ x :: y :: z :: engO b e i cs) := by
  have := Tr.ef (F ++ [x, y, z]) (h ((F ++ [x, y, z]) ++ cs))
  rw [List.append_assoc] at this
  exact this
theorem Tr.efF4 {P : Program} {f : FuncId} {args : List Value} {κ : Kap} {b : Nat} {e : Eng} {i : EngI} {cs : List HProp} {v : Value} {x y z u : HProp} (F : List HProp) (h : ∀ cs, Tr P f args κ (engO b e i cs) v (engO b e i cs)) : Tr P f args κ (F ++ x :: y :: z :: u :: engO b e i cs) v (F ++ x :: y :: z :: u :: engO b e i cs) := by
  have := Tr.ef (F ++ [x, y, z, u]) (h ((F ++ [x, y, z, u]) ++ cs))
  rw [List.append_assoc] at this
  exact this
end Go.Proofs.YtpcechnalfaajaaDoor

/- Batches of events that are not linked; EngineBalances' plain law. -/
namespace Go.Proofs.YtpcechnalfaajaaDoor
open Go Go.Proofs

/-- One event by itself. -/
def Eng.one (ev : Eng.Evs) (e : Eng) (i : Nat) : Eng × List (Int × Int) := if (ev.do_ e i).2 = 0 then ((ev.do_ e i).1, []) else (e, [((i : Int), (ev.do_ e i).2)])
theorem batch_one {ev : Eng.Evs} {f i : Nat} {e : Eng} (hi : i < ev.n) (hf : band (ev.flags i) 1 = 0) : Eng.batch ev (f + 1) i e = ((Eng.batch ev f (i + 1) (Eng.one ev e i).1).1, (Eng.one ev e i).2 ++ (Eng.batch ev f (i + 1) (Eng.one ev e i).1).2) := by
  have hce : Eng.chainEnd ev (ev.n - i) i = i := by
    obtain ⟨m, hm⟩ : ∃ m, ev.n - i = m + 1 := ⟨ev.n - i - 1, by omega⟩
    rw [hm]
    exact if_neg (by simp [hf])
  have hrun : Eng.run ev 1 i e = if (ev.do_ e i).2 = 0 then ((ev.do_ e i).1, none) else ((ev.do_ e i).1, some (i, (ev.do_ e i).2)) := rfl
  have hm : min (i + 1) ev.n - i = 1 := by omega
  have hch : Eng.chain ev i i e = Eng.one ev e i := by
    unfold Eng.one
    split
    · rename_i h0
      rw [if_pos h0] at hrun
      rw [chain_none hm hrun, if_neg (by omega)]
    · rename_i h0
      rw [if_neg h0] at hrun
      rw [chain_some hm hrun]
      show (e, [(((i + 0 : Nat) : Int), if i + 0 = i then (ev.do_ e i).2 else 1)]) = _
      rw [if_pos (by omega)]; rfl
  have hb : Eng.batch ev (f + 1) i e = ((Eng.batch ev f (Eng.chainEnd ev (ev.n - i) i + 1) (Eng.chain ev i (Eng.chainEnd ev (ev.n - i) i) e).1).1, (Eng.chain ev i (Eng.chainEnd ev (ev.n - i) i) e).2 ++ (Eng.batch ev f (Eng.chainEnd ev (ev.n - i) i + 1) (Eng.chain ev i (Eng.chainEnd ev (ev.n - i) i) e).1).2) := if_pos hi
  rw [hb, hce, hch]
theorem batch_done {ev : Eng.Evs} {f i : Nat} {e : Eng} (hi : ¬ i < ev.n) : Eng.batch ev f i e = (e, []) := by
  cases f with
  | zero => rfl
  | succ f => exact if_neg hi
theorem one_ok {ev : Eng.Evs} {e e' : Eng} {i : Nat} (h : ev.do_ e i = (e', 0)) : Eng.one ev e i = (e', []) := by
  unfold Eng.one
  rw [h]; rfl
theorem batchT1 {e e1 : Eng} {t : Transfer} (h : band t.flags 1 = 0) (h1 : e.makeTransfer t = (e1, 0)) : e.batchT [t] = (e1, []) := by
  have a0 : band ((Eng.evT [t]).flags 0) 1 = 0 := h
  have b0 : (Eng.evT [t]).do_ e 0 = (e1, 0) := h1
  have n0 : (Eng.evT [t]).n = 1 := rfl
  show Eng.batch (Eng.evT [t]) 1 0 e = _
  generalize Eng.evT [t] = ev at *
  rw [batch_one (by omega) a0, one_ok b0]
  simp only
  rw [batch_done (by omega)]
  rfl
theorem batchT2 {e e1 e2 : Eng} {t u : Transfer} (h : band t.flags 1 = 0) (k : band u.flags 1 = 0) (h1 : e.makeTransfer t = (e1, 0)) (h2 : e1.makeTransfer u = (e2, 0)) : e.batchT [t, u] = (e2, []) := by
  have a0 : band ((Eng.evT [t, u]).flags 0) 1 = 0 := h
  have a1 : band ((Eng.evT [t, u]).flags (0 + 1)) 1 = 0 := k
  have b0 : (Eng.evT [t, u]).do_ e 0 = (e1, 0) := h1
  have b1 : (Eng.evT [t, u]).do_ e1 (0 + 1) = (e2, 0) := h2
  have n0 : (Eng.evT [t, u]).n = 2 := rfl
  show Eng.batch (Eng.evT [t, u]) 2 0 e = _
  generalize Eng.evT [t, u] = ev at *
  rw [batch_one (by omega) a0, one_ok b0]
  simp only
  rw [batch_one (by omega) a1, one_ok b1]
  simp only
  rw [batch_done (by omega)]
  rfl
/-- An engine of three accounts. -/
def Thr (x y z : Account) (T : List Transfer) (ra rb rc : List Row) (tm now : Int) : Eng := ⟨[x, y, z], T, [ra, rb, rc], tm, now⟩
def acc3 : Account := ⟨3, 1, 0, 0, 0, 0, 0, 3, 0, rootN []⟩
def thr0 : Eng := Thr acc1 acc2 acc3 [] [] [] [] 3 0
theorem thr_apply (p : Option Addr) (c : Nat) : (Eng.empty.apply (reqA p [acctN 1, acctN 2, acctN 3] c)).1.1 = thr0 := by kernel_rfl
theorem thr0_w : EngW 600 thr0 := by
  have := apply_w empty_w (reqA none [acctN 1, acctN 2, acctN 3] 3) (by decide) (by decide) (by decide)
  rw [thr_apply] at this
  exact this
/-- A plain transfer, of an amount that fits. -/
theorem first_plain (e : Eng) (t : Transfer) (d c : Nat) (x y : Account) (n : Num) (hx0 : e.acc.getD d zA = x) (hy0 : e.acc.getD c zA = y) (hp : pendT t = false) (hn : Eng.firstAmount t x y = n) (h64 : band t.flags 64 = 0) (h128 : band t.flags 128 = 0)
    (ho : fitN [x.dq, n] = true) (hi : fitN [y.cq, n] = true) (hdp : x.dp = 0) (hcp : y.cp = 0) (h2 : band x.flags 2 = 0) (h4 : band x.flags 4 = 0) (k2 : band y.flags 2 = 0) (k4 : band y.flags 4 = 0) :
    e.first t d c = (({ e with acc := (e.acc.set d { x with dq := addN [x.dq, n] }).set c { y with cq := addN [y.cq, n] } }).add { t with state := 0 } n d c, 0) := by
  have hp' : ¬ pendT t = true := by rw [hp]; simp
  have e1 : firX t n x = { x with dq := addN [x.dq, n] } := if_neg hp'
  have e2 : firY t n y = { y with cq := addN [y.cq, n] } := if_neg hp'
  have e3 : firO t n x = true := (if_neg hp').trans ho
  have e4 : firI t n y = true := (if_neg hp').trans hi
  have f1 : fitN [x.dp, addN [x.dq, n]] = true := by rw [hdp]; exact (addN_zero _).2.2.1
  have f2 : fitN [y.cp, addN [y.cq, n]] = true := by rw [hcp]; exact (addN_zero _).2.2.1
  rw [first_eq e t d c hx0 hy0 hn e1 e2 e3 e4, if_neg (by simp [f1, f2]), if_neg (by rw [within0 (x := { x with dq := addN [x.dq, n] }) h2 h4]; simp), if_neg (by rw [within0 (x := { y with cq := addN [y.cq, n] }) k2 k4]; simp), hp]
  rw [show firC t 64 { x with dq := addN [x.dq, n] } = { x with dq := addN [x.dq, n] } from if_neg (by simp [h64]), show firC t 128 { y with cq := addN [y.cq, n] } = { y with cq := addN [y.cq, n] } from if_neg (by simp [h128])]
  rfl
theorem least2 (a b : Num) : (leastN [a, b]).toNat = min a.toNat b.toNat := by
  have h : (BitVec.allOnes 128 : Num).toNat = 340282366920938463463374607431768211455 := by decide
  have ha := a.isLt
  unfold leastN
  simp only [List.foldl, least_step]
  split
  · split <;> omega
  · have h1 : (BitVec.allOnes 128 : Num).toNat = a.toNat := by omega
    split <;> omega
theorem least1 (n : Num) : leastN [BitVec.allOnes 128, n] = n := by
  have h : (BitVec.allOnes 128 : Num).toNat = 340282366920938463463374607431768211455 := by decide
  apply BitVec.eq_of_toNat_eq
  rw [least2, h]
  have := n.isLt
  omega
theorem sub_toNat {a b : Num} (h : b.toNat ≤ a.toNat) : (subN a b).toNat = a.toNat - b.toNat := by
  unfold subN
  rw [if_neg (by omega), BitVec.toNat_sub]
  have := a.isLt
  have := b.isLt
  omega
theorem fit_of {a b : Num} (h : a.toNat + b.toNat < 340282366920938463463374607431768211456) : fitN [a, b] = true := by
  unfold fitN
  simp only [List.map_cons, List.map_nil, List.sum_cons, List.sum_nil]
  exact decide_eq_true (by omega)
theorem sum_zero (n : Num) : sumN [0, n] = n := by
  unfold sumN
  rw [if_pos (addN_zero n).2.2.1, (addN_zero n).1]
/-- What is moved. -/
def baN (have_ used want : Num) : Num := if want = 0 then subN have_ used else leastN [want, subN have_ used]
theorem baN_le {h u w : Num} (hu : u.toNat ≤ h.toNat) : u.toNat + (baN h u w).toNat ≤ h.toNat := by
  have hs := sub_toNat hu
  unfold baN
  split
  · omega
  · rw [least2]; omega
def baT1 (c : Bool) (n : Num) : Transfer := ⟨1, if c then 2 else 1, if c then 1 else 2, n, 0, 0, 1, 0, 0, 0, 0⟩
def baT2 (c : Bool) (n : Num) : Transfer := ⟨2, if c then 1 else 2, if c then 2 else 1, n, 0, 0, 1, 0, 0, 0, 0⟩
def baT3 (c : Bool) (n : Num) : Transfer := ⟨3, if c then 3 else 2, if c then 2 else 3, n, 0, 0, 1, if c then 32 else 16, 0, 0, 0⟩
theorem add_thr01 (x y z : Account) (T : List Transfer) (ra rb rc : List Row) (tm now : Int) (t : Transfer) (n : Num) : (Thr x y z T ra rb rc tm now).add t n 0 1 =
    Thr (wRow x (ra ++ [rowOf t.id (tm + 1) (bclr t.flags 1) n x])) (wRow y (rb ++ [rowOf t.id (tm + 1) (bclr t.flags 1) n y])) z (T ++ [{ t with time := tm + 1, tick := now }]) (ra ++ [rowOf t.id (tm + 1) (bclr t.flags 1) n x]) (rb ++ [rowOf t.id (tm + 1) (bclr t.flags 1) n y]) rc (tm + 1) now := rfl
theorem add_thr10 (x y z : Account) (T : List Transfer) (ra rb rc : List Row) (tm now : Int) (t : Transfer) (n : Num) : (Thr x y z T ra rb rc tm now).add t n 1 0 =
    Thr (wRow x (ra ++ [rowOf t.id (tm + 1) (bclr t.flags 1) n x])) (wRow y (rb ++ [rowOf t.id (tm + 1) (bclr t.flags 1) n y])) z (T ++ [{ t with time := tm + 1, tick := now }]) (ra ++ [rowOf t.id (tm + 1) (bclr t.flags 1) n x]) (rb ++ [rowOf t.id (tm + 1) (bclr t.flags 1) n y]) rc (tm + 1) now := rfl
theorem add_thr12 (x y z : Account) (T : List Transfer) (ra rb rc : List Row) (tm now : Int) (t : Transfer) (n : Num) : (Thr x y z T ra rb rc tm now).add t n 1 2 =
    Thr x (wRow y (rb ++ [rowOf t.id (tm + 1) (bclr t.flags 1) n y])) (wRow z (rc ++ [rowOf t.id (tm + 1) (bclr t.flags 1) n z])) (T ++ [{ t with time := tm + 1, tick := now }]) ra (rb ++ [rowOf t.id (tm + 1) (bclr t.flags 1) n y]) (rc ++ [rowOf t.id (tm + 1) (bclr t.flags 1) n z]) (tm + 1) now := rfl
theorem add_thr21 (x y z : Account) (T : List Transfer) (ra rb rc : List Row) (tm now : Int) (t : Transfer) (n : Num) : (Thr x y z T ra rb rc tm now).add t n 2 1 =
    Thr x (wRow y (rb ++ [rowOf t.id (tm + 1) (bclr t.flags 1) n y])) (wRow z (rc ++ [rowOf t.id (tm + 1) (bclr t.flags 1) n z])) (T ++ [{ t with time := tm + 1, tick := now }]) ra (rb ++ [rowOf t.id (tm + 1) (bclr t.flags 1) n y]) (rc ++ [rowOf t.id (tm + 1) (bclr t.flags 1) n z]) (tm + 1) now := rfl
theorem ba_room1 (x y : Account) (h u w : Num) (hx : x.dp = 0) (hq : x.dq = u) (hc : x.cq = h) : Eng.firstAmount (baT3 false w) x y = baN h u w := by
  have hr : roomN x true = subN h u := by unfold roomN; rw [if_pos rfl, hx, hq, hc, sum_zero]
  have b48 : band (baT3 false w).flags 48 ≠ 0 := of_decide_eq_true (by kernel_rfl)
  have b16 : band (baT3 false w).flags 16 ≠ 0 := of_decide_eq_true (by kernel_rfl)
  have b32 : band (baT3 false w).flags 32 = 0 := by kernel_rfl
  unfold Eng.firstAmount baN
  simp only [if_pos b16, if_neg (show ¬ band (baT3 false w).flags 32 ≠ 0 by simp [b32]), hr]
  by_cases h0 : w = 0
  · rw [if_pos ⟨b48, h0⟩, if_pos h0, least1]
  · rw [if_neg (fun h => h0 h.2), if_neg h0]; rfl
theorem ba_room2 (x y : Account) (h u w : Num) (hx : y.cp = 0) (hq : y.cq = u) (hc : y.dq = h) : Eng.firstAmount (baT3 true w) x y = baN h u w := by
  have hr : roomN y false = subN h u := by unfold roomN; rw [if_neg (by decide), hx, hq, hc, sum_zero]
  have b48 : band (baT3 true w).flags 48 ≠ 0 := of_decide_eq_true (by kernel_rfl)
  have b32 : band (baT3 true w).flags 32 ≠ 0 := of_decide_eq_true (by kernel_rfl)
  have b16 : band (baT3 true w).flags 16 = 0 := by kernel_rfl
  unfold Eng.firstAmount baN
  simp only [if_pos b32, if_neg (show ¬ band (baT3 true w).flags 16 ≠ 0 by simp [b16]), hr]
  by_cases h0 : w = 0
  · rw [if_pos ⟨b48, h0⟩, if_pos h0, least1]
  · rw [if_neg (fun h => h0 h.2), if_neg h0]; rfl
/-- An account with rows, whatever their root. -/
def wG (x : Account) (l : List Row) (g : Hash) : Account := { x with rows := l.length, root := g }
section
variable (x y z : Account) (T : List Transfer) (ra rb rc : List Row) (tm now : Int) (t : Transfer) (n : Num)
theorem thr_step01 {dq' cq' : Num} (hdq : addN [x.dq, n] = dq') (hcq : addN [y.cq, n] = cq') (hp : pendT t = false) (hn : Eng.firstAmount t x y = n) (h64 : band t.flags 64 = 0) (h128 : band t.flags 128 = 0) (ho : fitN [x.dq, n] = true) (hi : fitN [y.cq, n] = true) (hdp : x.dp = 0) (hcp : y.cp = 0) (h2 : band x.flags 2 = 0) (h4 : band x.flags 4 = 0) (k2 : band y.flags 2 = 0) (k4 : band y.flags 4 = 0) :
    ∃ g1 g2, (Thr x y z T ra rb rc tm now).first t 0 1 = (Thr (wG { x with dq := dq' } (ra ++ [rowOf t.id (tm + 1) (bclr t.flags 1) n { x with dq := dq' }]) g1) (wG { y with cq := cq' } (rb ++ [rowOf t.id (tm + 1) (bclr t.flags 1) n { y with cq := cq' }]) g2) z
      (T ++ [{ t with state := 0, time := tm + 1, tick := now }]) (ra ++ [rowOf t.id (tm + 1) (bclr t.flags 1) n { x with dq := dq' }]) (rb ++ [rowOf t.id (tm + 1) (bclr t.flags 1) n { y with cq := cq' }]) rc (tm + 1) now, 0) := by
  subst hdq hcq
  rw [first_plain (Thr x y z T ra rb rc tm now) t 0 1 x y n rfl rfl hp hn h64 h128 ho hi hdp hcp h2 h4 k2 k4]
  exact ⟨_, _, rfl⟩
theorem thr_step10 {dq' cq' : Num} (hdq : addN [y.dq, n] = dq') (hcq : addN [x.cq, n] = cq') (hp : pendT t = false) (hn : Eng.firstAmount t y x = n) (h64 : band t.flags 64 = 0) (h128 : band t.flags 128 = 0) (ho : fitN [y.dq, n] = true) (hi : fitN [x.cq, n] = true) (hdp : y.dp = 0) (hcp : x.cp = 0) (h2 : band y.flags 2 = 0) (h4 : band y.flags 4 = 0) (k2 : band x.flags 2 = 0) (k4 : band x.flags 4 = 0) :
    ∃ g1 g2, (Thr x y z T ra rb rc tm now).first t 1 0 = (Thr (wG { x with cq := cq' } (ra ++ [rowOf t.id (tm + 1) (bclr t.flags 1) n { x with cq := cq' }]) g1) (wG { y with dq := dq' } (rb ++ [rowOf t.id (tm + 1) (bclr t.flags 1) n { y with dq := dq' }]) g2) z
      (T ++ [{ t with state := 0, time := tm + 1, tick := now }]) (ra ++ [rowOf t.id (tm + 1) (bclr t.flags 1) n { x with cq := cq' }]) (rb ++ [rowOf t.id (tm + 1) (bclr t.flags 1) n { y with dq := dq' }]) rc (tm + 1) now, 0) := by
  subst hdq hcq
  rw [first_plain (Thr x y z T ra rb rc tm now) t 1 0 y x n rfl rfl hp hn h64 h128 ho hi hdp hcp h2 h4 k2 k4]
  exact ⟨_, _, rfl⟩
theorem thr_step12 {dq' cq' : Num} (hdq : addN [y.dq, n] = dq') (hcq : addN [z.cq, n] = cq') (hp : pendT t = false) (hn : Eng.firstAmount t y z = n) (h64 : band t.flags 64 = 0) (h128 : band t.flags 128 = 0) (ho : fitN [y.dq, n] = true) (hi : fitN [z.cq, n] = true) (hdp : y.dp = 0) (hcp : z.cp = 0) (h2 : band y.flags 2 = 0) (h4 : band y.flags 4 = 0) (k2 : band z.flags 2 = 0) (k4 : band z.flags 4 = 0) :
    ∃ g1 g2, (Thr x y z T ra rb rc tm now).first t 1 2 = (Thr x (wG { y with dq := dq' } (rb ++ [rowOf t.id (tm + 1) (bclr t.flags 1) n { y with dq := dq' }]) g1) (wG { z with cq := cq' } (rc ++ [rowOf t.id (tm + 1) (bclr t.flags 1) n { z with cq := cq' }]) g2)
      (T ++ [{ t with state := 0, time := tm + 1, tick := now }]) ra (rb ++ [rowOf t.id (tm + 1) (bclr t.flags 1) n { y with dq := dq' }]) (rc ++ [rowOf t.id (tm + 1) (bclr t.flags 1) n { z with cq := cq' }]) (tm + 1) now, 0) := by
  subst hdq hcq
  rw [first_plain (Thr x y z T ra rb rc tm now) t 1 2 y z n rfl rfl hp hn h64 h128 ho hi hdp hcp h2 h4 k2 k4]
  exact ⟨_, _, rfl⟩
theorem thr_step21 {dq' cq' : Num} (hdq : addN [z.dq, n] = dq') (hcq : addN [y.cq, n] = cq') (hp : pendT t = false) (hn : Eng.firstAmount t z y = n) (h64 : band t.flags 64 = 0) (h128 : band t.flags 128 = 0) (ho : fitN [z.dq, n] = true) (hi : fitN [y.cq, n] = true) (hdp : z.dp = 0) (hcp : y.cp = 0) (h2 : band z.flags 2 = 0) (h4 : band z.flags 4 = 0) (k2 : band y.flags 2 = 0) (k4 : band y.flags 4 = 0) :
    ∃ g1 g2, (Thr x y z T ra rb rc tm now).first t 2 1 = (Thr x (wG { y with cq := cq' } (rb ++ [rowOf t.id (tm + 1) (bclr t.flags 1) n { y with cq := cq' }]) g1) (wG { z with dq := dq' } (rc ++ [rowOf t.id (tm + 1) (bclr t.flags 1) n { z with dq := dq' }]) g2)
      (T ++ [{ t with state := 0, time := tm + 1, tick := now }]) ra (rb ++ [rowOf t.id (tm + 1) (bclr t.flags 1) n { y with cq := cq' }]) (rc ++ [rowOf t.id (tm + 1) (bclr t.flags 1) n { z with dq := dq' }]) (tm + 1) now, 0) := by
  subst hdq hcq
  rw [first_plain (Thr x y z T ra rb rc tm now) t 2 1 z y n rfl rfl hp hn h64 h128 ho hi hdp hcp h2 h4 k2 k4]
  exact ⟨_, _, rfl⟩
end
def rw1 (id : Num) (tm : Int) (f : Int) (n : Num) (x : Account) : Row := rowOf id tm f n x
/-- Behind the first transfers: what stands on both sides of the first two accounts. -/
def baA (c : Bool) (h : Num) (g1 g2 : Hash) : Eng :=
  if c then Thr (wG { acc1 with cq := h } [rowOf 1 4 0 h { acc1 with cq := h }] g1) (wG { acc2 with dq := h } [rowOf 1 4 0 h { acc2 with dq := h }] g2) acc3 [{ baT1 true h with state := 0, time := 4, tick := 0 }] [rowOf 1 4 0 h { acc1 with cq := h }] [rowOf 1 4 0 h { acc2 with dq := h }] [] 4 0
  else Thr (wG { acc1 with dq := h } [rowOf 1 4 0 h { acc1 with dq := h }] g1) (wG { acc2 with cq := h } [rowOf 1 4 0 h { acc2 with cq := h }] g2) acc3 [{ baT1 false h with state := 0, time := 4, tick := 0 }] [rowOf 1 4 0 h { acc1 with dq := h }] [rowOf 1 4 0 h { acc2 with cq := h }] [] 4 0
def baX (d c : Num) (w : Int) (g : Hash) : Account := ⟨1, 1, 0, 0, d, 0, c, 1, w, g⟩
def baY (d c : Num) (w : Int) (g : Hash) : Account := ⟨2, 1, 0, 0, d, 0, c, 2, w, g⟩
theorem ba_a (c : Bool) (h : Num) : ∃ g1 g2, thr0.makeTransfer (baT1 c h) = (baA c h g1 g2, 0) := by
  obtain ⟨z1, -, z3, -⟩ := addN_zero h
  cases c with
  | false =>
    obtain ⟨g1, g2, s1⟩ := thr_step01 acc1 acc2 acc3 [] [] [] [] 3 0 (baT1 false h) h z1 z1 (by kernel_rfl) (by kernel_rfl) (by kernel_rfl) (by kernel_rfl) z3 z3 rfl rfl (by kernel_rfl) (by kernel_rfl) (by kernel_rfl) (by kernel_rfl)
    exact ⟨g1, g2, (show thr0.makeTransfer (baT1 false h) = thr0.first (baT1 false h) 0 1 by kernel_rfl).trans (s1.trans (by kernel_rfl))⟩
  | true =>
    obtain ⟨g1, g2, s1⟩ := thr_step10 acc1 acc2 acc3 [] [] [] [] 3 0 (baT1 true h) h z1 z1 (by kernel_rfl) (by kernel_rfl) (by kernel_rfl) (by kernel_rfl) z3 z3 rfl rfl (by kernel_rfl) (by kernel_rfl) (by kernel_rfl) (by kernel_rfl)
    exact ⟨g1, g2, (show thr0.makeTransfer (baT1 true h) = thr0.first (baT1 true h) 1 0 by kernel_rfl).trans (s1.trans (by kernel_rfl))⟩
/-- Behind both. -/
def baB (c : Bool) (h u : Num) (g1 g2 : Hash) (ra rb : List Row) : Eng :=
  if c then Thr (baX u h 2 g1) (baY h u 2 g2) acc3 [{ baT1 true h with state := 0, time := 4, tick := 0 }, { baT2 true u with state := 0, time := 5, tick := 0 }] ra rb [] 5 0
  else Thr (baX h u 2 g1) (baY u h 2 g2) acc3 [{ baT1 false h with state := 0, time := 4, tick := 0 }, { baT2 false u with state := 0, time := 5, tick := 0 }] ra rb [] 5 0
theorem ba_b (c : Bool) (h u : Num) (g1 g2 : Hash) : ∃ g3 g4 ra x y, (baA c h g1 g2).makeTransfer (baT2 c u) = (baB c h u g3 g4 ra [rowOf 1 4 0 h x, rowOf 2 5 0 u y], 0) := by
  obtain ⟨z1, -, z3, -⟩ := addN_zero u
  cases c with
  | false =>
    obtain ⟨g3, g4, s1⟩ := thr_step10 (baX h 0 1 g1) (baY 0 h 1 g2) acc3 [{ baT1 false h with state := 0, time := 4, tick := 0 }] [rowOf 1 4 0 h { acc1 with dq := h }] [rowOf 1 4 0 h { acc2 with cq := h }] [] 4 0 (baT2 false u) u z1 z1 (by kernel_rfl) (by kernel_rfl) (by kernel_rfl) (by kernel_rfl) z3 z3 rfl rfl (by kernel_rfl) (by kernel_rfl) (by kernel_rfl) (by kernel_rfl)
    exact ⟨g3, g4, [rowOf 1 4 0 h { acc1 with dq := h }, rowOf 2 5 0 u { baX h 0 1 g1 with cq := u }], { acc2 with cq := h }, { baY 0 h 1 g2 with dq := u }, (show (baA false h g1 g2).makeTransfer (baT2 false u) = (baA false h g1 g2).first (baT2 false u) 1 0 by kernel_rfl).trans (s1.trans (by kernel_rfl))⟩
  | true =>
    obtain ⟨g3, g4, s1⟩ := thr_step01 (baX 0 h 1 g1) (baY h 0 1 g2) acc3 [{ baT1 true h with state := 0, time := 4, tick := 0 }] [rowOf 1 4 0 h { acc1 with cq := h }] [rowOf 1 4 0 h { acc2 with dq := h }] [] 4 0 (baT2 true u) u z1 z1 (by kernel_rfl) (by kernel_rfl) (by kernel_rfl) (by kernel_rfl) z3 z3 rfl rfl (by kernel_rfl) (by kernel_rfl) (by kernel_rfl) (by kernel_rfl)
    exact ⟨g3, g4, [rowOf 1 4 0 h { acc1 with cq := h }, rowOf 2 5 0 u { baX 0 h 1 g1 with dq := u }], { acc2 with dq := h }, { baY h 0 1 g2 with cq := u }, (show (baA true h g1 g2).makeTransfer (baT2 true u) = (baA true h g1 g2).first (baT2 true u) 0 1 by kernel_rfl).trans (s1.trans (by kernel_rfl))⟩
theorem ba_c (c : Bool) (h u w : Num) (hu : u.toNat ≤ h.toNat) (g1 g2 : Hash) (ra : List Row) (x y : Account) : ∃ E, (baB c h u g1 g2 ra [rowOf 1 4 0 h x, rowOf 2 5 0 u y]).makeTransfer (baT3 c w) = (E, 0) ∧ E.amount 3 = baN h u w := by
  have hle := baN_le (w := w) hu
  have hlt := h.isLt
  obtain ⟨v1, -, v3, -⟩ := addN_zero (baN h u w)
  have hfit : fitN [u, baN h u w] = true := fit_of (by omega)
  cases c with
  | false =>
    obtain ⟨g3, g4, s1⟩ := thr_step12 (baX h u 2 g1) (baY u h 2 g2) acc3 [{ baT1 false h with state := 0, time := 4, tick := 0 }, { baT2 false u with state := 0, time := 5, tick := 0 }] ra [rowOf 1 4 0 h x, rowOf 2 5 0 u y] [] 5 0 (baT3 false w) (baN h u w) rfl v1 (by kernel_rfl) (ba_room1 _ _ h u w rfl rfl rfl) (by kernel_rfl) (by kernel_rfl) hfit v3 rfl rfl (by kernel_rfl) (by kernel_rfl) (by kernel_rfl) (by kernel_rfl)
    refine ⟨_, (show (baB false h u g1 g2 ra [rowOf 1 4 0 h x, rowOf 2 5 0 u y]).makeTransfer (baT3 false w) = (baB false h u g1 g2 ra [rowOf 1 4 0 h x, rowOf 2 5 0 u y]).first (baT3 false w) 1 2 by kernel_rfl).trans s1, ?_⟩
    generalize baN h u w = n
    generalize addN [(baY u h 2 g2).dq, n] = q
    kernel_rfl
  | true =>
    obtain ⟨g3, g4, s1⟩ := thr_step21 (baX u h 2 g1) (baY h u 2 g2) acc3 [{ baT1 true h with state := 0, time := 4, tick := 0 }, { baT2 true u with state := 0, time := 5, tick := 0 }] ra [rowOf 1 4 0 h x, rowOf 2 5 0 u y] [] 5 0 (baT3 true w) (baN h u w) v1 rfl (by kernel_rfl) (ba_room2 _ _ h u w rfl rfl rfl) (by kernel_rfl) (by kernel_rfl) v3 hfit rfl rfl (by kernel_rfl) (by kernel_rfl) (by kernel_rfl) (by kernel_rfl)
    refine ⟨_, (show (baB true h u g1 g2 ra [rowOf 1 4 0 h x, rowOf 2 5 0 u y]).makeTransfer (baT3 true w) = (baB true h u g1 g2 ra [rowOf 1 4 0 h x, rowOf 2 5 0 u y]).first (baT3 true w) 2 1 by kernel_rfl).trans s1, ?_⟩
    generalize baN h u w = n
    generalize addN [(baY h u 2 g2).cq, n] = q
    kernel_rfl
theorem balances_law (c : Bool) (h u w : Num) (hu : u.toNat ≤ h.toNat) : (thr0.batchT [baT1 c h, baT2 c u]).2 = [] ∧ ((thr0.batchT [baT1 c h, baT2 c u]).1.batchT [baT3 c w]).2 = [] ∧ ((thr0.batchT [baT1 c h, baT2 c u]).1.batchT [baT3 c w]).1.amount 3 = baN h u w := by
  obtain ⟨g1, g2, e1⟩ := ba_a c h
  obtain ⟨g3, g4, ra, x, y, e2⟩ := ba_b c h u g1 g2
  obtain ⟨E, e3, hE⟩ := ba_c c h u w hu g3 g4 ra x y
  rw [batchT2 (by cases c <;> kernel_rfl) (by cases c <;> kernel_rfl) e1 e2]
  simp only
  rw [batchT1 (by cases c <;> kernel_rfl) e3]
  exact ⟨trivial, rfl, hE⟩
end Go.Proofs.YtpcechnalfaajaaDoor

/- EngineCodes' plain law: what one event leaves. -/
namespace Go.Proofs.YtpcechnalfaajaaDoor
open Go Go.Proofs

theorem i64_bv (y : BitVec 64) : BitVec.ofInt 64 (IntKind.i64.wrap (y.toNat : Int)) = y := by
  have h : IntKind.i64.wrap (y.toNat : Int) = y.toInt := by
    have e1 : (2 : Int) ^ (64 : Nat) = 18446744073709551616 := by decide
    have e2 : (2 : Int) ^ (64 - 1 : Nat) = 9223372036854775808 := by decide
    have e3 : (2 : Nat) ^ 64 = 18446744073709551616 := by decide
    have hy := y.isLt
    rw [BitVec.toInt_eq_toNat_cond]
    simp only [IntKind.wrap, IntKind.bits, IntKind.signed, Bool.true_and, e1, e2]
    rw [e3]
    split
    · rename_i h'
      have := of_decide_eq_true h'
      rw [if_neg (by omega)]
      omega
    · rename_i h'
      have : ¬ ((y.toNat : Int) % 18446744073709551616 ≥ 9223372036854775808) := fun k => h' (decide_eq_true k)
      rw [if_pos (by omega)]
      omega
  rw [h, BitVec.ofInt_toInt]
theorem unlinked (f : Int) : band (bclr f 1) 1 = 0 := by
  show IntKind.i64.wrap ((BitVec.ofInt 64 (IntKind.i64.wrap ((BitVec.ofInt 64 f &&& ~~~ BitVec.ofInt 64 1).toNat : Int)) &&& BitVec.ofInt 64 1).toNat : Int) = 0
  rw [i64_bv, BitVec.and_assoc, show (~~~ BitVec.ofInt 64 1 &&& BitVec.ofInt 64 1) = 0#64 by decide, BitVec.and_zero]
  decide
theorem batchT_one {e : Eng} {t : Transfer} (h : band t.flags 1 = 0) : e.batchT [t] = if (e.makeTransfer t).2 = 0 then ((e.makeTransfer t).1, []) else (e, [(0, (e.makeTransfer t).2)]) := by
  have a0 : band ((Eng.evT [t]).flags 0) 1 = 0 := h
  have b0 : (Eng.evT [t]).do_ e 0 = e.makeTransfer t := rfl
  have n0 : (Eng.evT [t]).n = 1 := rfl
  show Eng.batch (Eng.evT [t]) 1 0 e = _
  generalize Eng.evT [t] = ev at *
  rw [batch_one (by omega) a0, batch_done (by omega)]
  unfold Eng.one
  rw [b0]
  split <;> rfl
theorem batchA_one {e : Eng} {t : Account} (h : band t.flags 1 = 0) : e.batchA [t] = if (e.makeAccount t).2 = 0 then ((e.makeAccount t).1, []) else (e, [(0, (e.makeAccount t).2)]) := by
  have a0 : band ((Eng.evA [t]).flags 0) 1 = 0 := h
  have b0 : (Eng.evA [t]).do_ e 0 = e.makeAccount t := rfl
  have n0 : (Eng.evA [t]).n = 1 := rfl
  show Eng.batch (Eng.evA [t]) 1 0 e = _
  generalize Eng.evA [t] = ev at *
  rw [batch_one (by omega) a0, batch_done (by omega)]
  unfold Eng.one
  rw [b0]
  split <;> rfl
theorem add_tids (e : Eng) (t : Transfer) (n : Num) (d c : Nat) : (e.add t n d c).tids = e.tids ++ [t.id] := by
  show (((_ : Eng).row1 _ _ _ d).row1 _ _ _ c).tids = _
  rw [Eng.row1_tids, Eng.row1_tids]
  simp [Eng.tids]
theorem againT_ne (t old : Transfer) : againT t old ≠ 0 := by
  unfold againT
  repeat' split
  all_goals decide
theorem againA_ne (a old : Account) : againA a old ≠ 0 := by
  unfold againA
  repeat' split
  all_goals decide
theorem first_there {e : Eng} {t : Transfer} {d c : Nat} (h : (e.first t d c).2 = 0) : t.id ∈ (e.first t d c).1.tids := by
  rw [first_eq e t d c rfl rfl rfl rfl rfl rfl rfl] at h ⊢
  split
  · rename_i h1; rw [if_pos h1] at h; cases h
  rename_i h1
  rw [if_neg h1] at h
  split
  · rename_i h2; rw [if_pos h2] at h; cases h
  rename_i h2
  rw [if_neg h2] at h
  split
  · rename_i h3; rw [if_pos h3] at h; cases h
  simp [add_tids]
theorem second_there {e : Eng} {t : Transfer} (h : (e.second t).2 = 0) : t.id ∈ (e.second t).1.tids := by
  cases hp : posN t.pid e.tids with
  | none => rw [second_none hp] at h; cases h
  | some k =>
    rw [second_some hp rfl rfl] at h ⊢
    split
    · rename_i h1; rw [if_pos h1] at h; exact absurd h h1
    · unfold secF
      simp [add_tids]
theorem makeTransfer_there {e : Eng} {t : Transfer} (h : (e.makeTransfer t).2 = 0) : t.id ∈ (e.makeTransfer t).1.tids := by
  unfold Eng.makeTransfer at h ⊢
  split
  · rename_i h1; rw [if_pos h1] at h; exact absurd h h1
  rename_i h1
  rw [if_neg h1] at h
  cases ho : e.transfer t.id with
  | some old => rw [ho] at h; exact absurd h (againT_ne t old)
  | none =>
    rw [ho] at h
    simp only at h ⊢
    split
    · rename_i h2; rw [if_pos h2] at h; cases h
    rename_i h2
    rw [if_neg h2] at h
    split
    · rename_i h3; rw [if_pos h3] at h; exact second_there h
    rename_i h3
    rw [if_neg h3] at h
    cases hd : posN t.debit e.ids with
    | none => rw [hd] at h; cases h
    | some d =>
      rw [hd] at h
      simp only at h ⊢
      cases hc : posN t.credit e.ids with
      | none => rw [hc] at h; cases h
      | some c =>
        rw [hc] at h
        simp only at h ⊢
        split
        · rename_i h4; rw [if_pos h4] at h; cases h
        rename_i h4
        rw [if_neg h4] at h
        split
        · rename_i h5; rw [if_pos h5] at h; cases h
        rename_i h5
        rw [if_neg h5] at h
        split
        · rename_i h6; rw [if_pos h6] at h; cases h
        rename_i h6
        rw [if_neg h6] at h
        split
        · rename_i h7; rw [if_pos h7] at h; cases h
        rename_i h7
        rw [if_neg h7] at h
        exact first_there h
theorem makeTransfer_rule {e : Eng} {t : Transfer} (h : ruleT t ≠ 0) : (e.makeTransfer t).2 = ruleT t := by
  unfold Eng.makeTransfer
  rw [if_pos h]
theorem makeAccount_rule {e : Eng} {t : Account} (h : ruleA t ≠ 0) : (e.makeAccount t).2 = ruleA t := by
  unfold Eng.makeAccount
  rw [if_pos h]
theorem makeAccount_there {e : Eng} {a : Account} (h : (e.makeAccount a).2 = 0) : a.id ∈ (e.makeAccount a).1.ids := by
  unfold Eng.makeAccount at h ⊢
  split
  · rename_i h1; rw [if_pos h1] at h; exact absurd h h1
  rename_i h1
  rw [if_neg h1] at h
  cases ho : e.account a.id with
  | some old => rw [ho] at h; exact absurd h (againA_ne a old)
  | none =>
    rw [ho] at h
    simp only at h ⊢
    split
    · rename_i h2; rw [if_pos h2] at h; cases h
    · simp [Eng.ids]
theorem makeAccount_trs (e : Eng) (a : Account) : (e.makeAccount a).1.trs = e.trs := by
  unfold Eng.makeAccount
  split
  · rfl
  cases ho : e.account a.id with
  | some old => rfl
  | none =>
    simp only
    split <;> rfl
theorem transfer_there {e : Eng} {x : Num} (h : x ∈ e.tids) : (e.transfer x).isSome = true := by
  unfold Eng.transfer
  cases hp : posN x e.tids with
  | none => exact absurd h (posN_none.1 hp)
  | some k => rfl
theorem account_there {e : Eng} {x : Num} (h : x ∈ e.ids) : (e.account x).isSome = true := by
  unfold Eng.account
  cases hp : posN x e.ids with
  | none => exact absurd h (posN_none.1 hp)
  | some k => rfl
/-- What EngineCodes looks at. -/
theorem codes_law (E : Eng) (t : Transfer) (a : Account) (ht : band t.flags 1 = 0) (ha : band a.flags 1 = 0) :
    (((E.batchT [t]).2 = [] ∧ ruleT t = 0 ∧ (((E.batchT [t]).1.batchA [a]).1.transfer t.id).isSome = true) ∨ ∃ c, (E.batchT [t]).2 = [(0, c)] ∧ (ruleT t ≠ 0 → c = ruleT t)) ∧
    ((((E.batchT [t]).1.batchA [a]).2 = [] ∧ ruleA a = 0 ∧ (((E.batchT [t]).1.batchA [a]).1.account a.id).isSome = true) ∨ ∃ c, ((E.batchT [t]).1.batchA [a]).2 = [(0, c)] ∧ (ruleA a ≠ 0 → c = ruleA a)) := by
  have hA : ∀ F : Eng, ((F.batchA [a]).2 = [] ∧ ruleA a = 0 ∧ ((F.batchA [a]).1.account a.id).isSome = true) ∨ ∃ c, (F.batchA [a]).2 = [(0, c)] ∧ (ruleA a ≠ 0 → c = ruleA a) := by
    intro F
    rw [batchA_one ha]
    by_cases h : (F.makeAccount a).2 = 0
    · rw [if_pos h]
      refine .inl ⟨rfl, ?_, account_there (makeAccount_there h)⟩
      exact Classical.byContradiction fun hr => hr (by rw [← makeAccount_rule (e := F) hr]; exact h)
    · rw [if_neg h]
      exact .inr ⟨_, rfl, fun hr => makeAccount_rule hr⟩
  refine ⟨?_, hA _⟩
  have htr : ∀ F : Eng, (F.batchA [a]).1.tids = F.tids := by
    intro F
    rw [batchA_one ha]
    split
    · show (F.makeAccount a).1.trs.map _ = _
      rw [makeAccount_trs]; rfl
    · rfl
  by_cases h : (E.makeTransfer t).2 = 0
  · left
    have h1 := makeTransfer_there h
    have hb : E.batchT [t] = ((E.makeTransfer t).1, []) := by rw [batchT_one ht, if_pos h]
    refine ⟨by rw [hb], ?_, transfer_there (by rw [htr, hb]; exact h1)⟩
    exact Classical.byContradiction fun hr => hr (by rw [← makeTransfer_rule (e := E) hr]; exact h)
  · right
    refine ⟨_, by rw [batchT_one ht, if_neg h], fun hr => makeTransfer_rule hr⟩
end Go.Proofs.YtpcechnalfaajaaDoor

/- Sums$1, in plain Lean: a number is added to five limbs. -/
namespace Go.Proofs.YtpcechnalfaajaaDoor
open Go Go.Proofs

theorem and32 (x : Nat) (h : x < 18446744073709551616) : bandK .u64 (x : Int) 4294967295 = ((x % 4294967296 : Nat) : Int) := by
  have h1 : (BitVec.ofInt 64 (x : Int)).toNat = x := by
    rw [BitVec.toNat_ofInt]
    have : (2 : Int) ^ 64 = 18446744073709551616 := by decide
    omega
  have h2 : (BitVec.ofInt 64 4294967295).toNat = 2 ^ 32 - 1 := by decide
  show IntKind.u64.wrap ((BitVec.ofInt 64 (x : Int) &&& BitVec.ofInt 64 4294967295).toNat : Int) = _
  rw [BitVec.toNat_and, h1, h2, Nat.and_two_pow_sub_one_eq_mod]
  have : (2 : Nat) ^ 32 = 4294967296 := by decide
  rw [this]
  simp only [IntKind.wrap, IntKind.bits, IntKind.signed, Bool.false_and, Bool.false_eq_true, if_false]
  have : (2 : Int) ^ 64 = 18446744073709551616 := by decide
  omega
theorem shr32 (x : Nat) : shrK .u64 (x : Int) 32 = ((x / 4294967296 : Nat) : Int) := by
  show (x : Int).fdiv (2 ^ 32) = _
  have : (2 : Int) ^ 32 = 4294967296 := by decide
  rw [this, Int.fdiv_eq_ediv_of_nonneg _ (by decide)]
  omega
theorem add64 (x y : Nat) (h : x + y < 18446744073709551616) : addK .u64 (x : Int) (y : Int) = ((x + y : Nat) : Int) := by
  unfold addK
  simp only [IntKind.wrap, IntKind.bits, IntKind.signed, Bool.false_and, Bool.false_eq_true, if_false]
  have : (2 : Int) ^ 64 = 18446744073709551616 := by decide
  omega
def limbs (V : Nat) : List Int := [((V % 4294967296 : Nat) : Int), ((V / 4294967296 % 4294967296 : Nat) : Int), ((V / 18446744073709551616 % 4294967296 : Nat) : Int), ((V / 79228162514264337593543950336 % 4294967296 : Nat) : Int), ((V / 340282366920938463463374607431768211456 : Nat) : Int)]
def numL (n : Num) : List Int := [bandK .u64 ((n.toNat % 18446744073709551616 : Nat) : Int) 4294967295, shrK .u64 ((n.toNat % 18446744073709551616 : Nat) : Int) 32, bandK .u64 ((n.toNat / 18446744073709551616 : Nat) : Int) 4294967295, shrK .u64 ((n.toNat / 18446744073709551616 : Nat) : Int) 32]
def add1 (o : Nat) (X : List Int) : Nat → List Int → List Int
  | 0, L => L
  | k + 1, L => (add1 o X k L).set (o + k) (addK .u64 ((add1 o X k L).getD (o + k) 0) (X.getD k 0))
def add2a (o k : Nat) (L : List Int) : List Int := L.set (o + k + 1) (addK .u64 (L.getD (o + k + 1) 0) (shrK .u64 (L.getD (o + k) 0) 32))
def add2 (o : Nat) : Nat → List Int → List Int
  | 0, L => L
  | k + 1, L => (add2a o k (add2 o k L)).set (o + k) (bandK .u64 ((add2a o k (add2 o k L)).getD (o + k) 0) 4294967295)
theorem mid_get {P M S : List Int} {k : Nat} (h : k < M.length) : (P ++ M ++ S).getD (P.length + k) 0 = M.getD k 0 := by
  simp only [List.getD, List.append_assoc]
  rw [List.getElem?_append_right (by omega), Nat.add_sub_cancel_left, List.getElem?_append_left h]
theorem mid_set {P M S : List Int} {k : Nat} (h : k < M.length) (v : Int) : (P ++ M ++ S).set (P.length + k) v = P ++ M.set k v ++ S := by
  rw [List.append_assoc, List.set_append_right _ _ (by omega), Nat.add_sub_cancel_left, List.set_append_left _ _ h, List.append_assoc]
theorem add1_len (o : Nat) (X : List Int) : ∀ (k : Nat) (L : List Int), (add1 o X k L).length = L.length := by
  intro k
  induction k with
  | zero => intro L; rfl
  | succ k ih => intro L; simp [add1, ih]
theorem add2_len (o : Nat) : ∀ (k : Nat) (L : List Int), (add2 o k L).length = L.length := by
  intro k
  induction k with
  | zero => intro L; rfl
  | succ k ih => intro L; simp [add2, add2a, ih]
theorem add1_mid {P M S X : List Int} : ∀ k, k ≤ M.length → add1 P.length X k (P ++ M ++ S) = P ++ add1 0 X k M ++ S := by
  intro k
  induction k with
  | zero => intro _; rfl
  | succ k ih =>
    intro h
    have h1 : k < (add1 0 X k M).length := by rw [add1_len]; omega
    simp only [add1]
    rw [ih (by omega), mid_get h1, mid_set h1, Nat.zero_add]
theorem add2_mid {P M S : List Int} : ∀ k, k + 1 ≤ M.length → add2 P.length k (P ++ M ++ S) = P ++ add2 0 k M ++ S := by
  intro k
  induction k with
  | zero => intro _; rfl
  | succ k ih =>
    intro h
    have h1 : k + 1 < (add2 0 k M).length := by rw [add2_len]; omega
    have h3 : k < (add2a 0 k (add2 0 k M)).length := by unfold add2a; rw [List.length_set]; omega
    simp only [add2]
    rw [ih (by omega)]
    have h2 : add2a P.length k (P ++ add2 0 k M ++ S) = P ++ add2a 0 k (add2 0 k M) ++ S := by
      unfold add2a
      rw [Nat.add_assoc, mid_get h1, mid_get (by omega), mid_set h1, Nat.zero_add]
    rw [h2, mid_get h3, mid_set h3, Nat.zero_add]
theorem add5 (a0 a1 a2 a3 a4 x0 x1 x2 x3 : Nat) (h0 : a0 < 4294967296) (h1 : a1 < 4294967296) (h2 : a2 < 4294967296) (h3 : a3 < 4294967296) (h4 : a4 < 4294967296) (k0 : x0 < 4294967296) (k1 : x1 < 4294967296) (k2 : x2 < 4294967296) (k3 : x3 < 4294967296) :
    ∃ r0 r1 r2 r3 r4 : Nat, add2 0 4 (add1 0 [(x0 : Int), (x1 : Int), (x2 : Int), (x3 : Int)] 4 [(a0 : Int), (a1 : Int), (a2 : Int), (a3 : Int), (a4 : Int)]) = [(r0 : Int), (r1 : Int), (r2 : Int), (r3 : Int), (r4 : Int)] ∧
      r0 < 4294967296 ∧ r1 < 4294967296 ∧ r2 < 4294967296 ∧ r3 < 4294967296 ∧
      r0 + 4294967296 * r1 + 18446744073709551616 * r2 + 79228162514264337593543950336 * r3 + 340282366920938463463374607431768211456 * r4 =
      (a0 + x0) + 4294967296 * (a1 + x1) + 18446744073709551616 * (a2 + x2) + 79228162514264337593543950336 * (a3 + x3) + 340282366920938463463374607431768211456 * a4 := by
  have e1 : add1 0 [(x0 : Int), (x1 : Int), (x2 : Int), (x3 : Int)] 4 [(a0 : Int), (a1 : Int), (a2 : Int), (a3 : Int), (a4 : Int)] = [addK .u64 a0 x0, addK .u64 a1 x1, addK .u64 a2 x2, addK .u64 a3 x3, (a4 : Int)] := rfl
  rw [e1, add64 a0 x0 (by omega), add64 a1 x1 (by omega), add64 a2 x2 (by omega), add64 a3 x3 (by omega)]
  have e2 : ∀ s0 s1 s2 s3 s4 : Int, add2 0 4 [s0, s1, s2, s3, s4] = (let t1 := addK .u64 s1 (shrK .u64 s0 32); let t2 := addK .u64 s2 (shrK .u64 t1 32); let t3 := addK .u64 s3 (shrK .u64 t2 32); let t4 := addK .u64 s4 (shrK .u64 t3 32);
    [bandK .u64 s0 4294967295, bandK .u64 t1 4294967295, bandK .u64 t2 4294967295, bandK .u64 t3 4294967295, t4]) := fun _ _ _ _ _ => rfl
  rw [e2]
  simp only
  obtain ⟨t1, ht1⟩ : ∃ t1, t1 = a1 + x1 + (a0 + x0) / 4294967296 := ⟨_, rfl⟩
  have g1 : addK .u64 ((a1 + x1 : Nat) : Int) (shrK .u64 ((a0 + x0 : Nat) : Int) 32) = (t1 : Int) := by rw [shr32, add64 _ _ (by omega), ht1]
  rw [g1]
  obtain ⟨t2, ht2⟩ : ∃ t2, t2 = a2 + x2 + t1 / 4294967296 := ⟨_, rfl⟩
  have g2 : addK .u64 ((a2 + x2 : Nat) : Int) (shrK .u64 (t1 : Int) 32) = (t2 : Int) := by rw [shr32, add64 _ _ (by omega), ht2]
  rw [g2]
  obtain ⟨t3, ht3⟩ : ∃ t3, t3 = a3 + x3 + t2 / 4294967296 := ⟨_, rfl⟩
  have g3 : addK .u64 ((a3 + x3 : Nat) : Int) (shrK .u64 (t2 : Int) 32) = (t3 : Int) := by rw [shr32, add64 _ _ (by omega), ht3]
  rw [g3, shr32, add64 _ _ (by omega), and32 _ (by omega), and32 _ (by omega), and32 _ (by omega), and32 _ (by omega)]
  refine ⟨_, _, _, _, _, rfl, by omega, by omega, by omega, by omega, ?_⟩
  omega
theorem limbs_uniq {V r0 r1 r2 r3 r4 : Nat} (h0 : r0 < 4294967296) (h1 : r1 < 4294967296) (h2 : r2 < 4294967296) (h3 : r3 < 4294967296)
    (h : r0 + 4294967296 * r1 + 18446744073709551616 * r2 + 79228162514264337593543950336 * r3 + 340282366920938463463374607431768211456 * r4 = V) : limbs V = [(r0 : Int), (r1 : Int), (r2 : Int), (r3 : Int), (r4 : Int)] := by
  have e0 : V % 4294967296 = r0 := by omega
  have e1 : V / 4294967296 % 4294967296 = r1 := by omega
  have e2 : V / 18446744073709551616 % 4294967296 = r2 := by omega
  have e3 : V / 79228162514264337593543950336 % 4294967296 = r3 := by omega
  have e4 : V / 340282366920938463463374607431768211456 = r4 := by omega
  unfold limbs
  rw [e0, e1, e2, e3, e4]
theorem add_limbs (V : Nat) (n : Num) (h : V < 1461501637330902918203684832716283019655932542976) : add2 0 4 (add1 0 (numL n) 4 (limbs V)) = limbs (V + n.toNat) := by
  have hn := n.isLt
  obtain ⟨N, hN⟩ : ∃ N, n.toNat = N := ⟨_, rfl⟩
  have hN2 : N < 340282366920938463463374607431768211456 := by rw [← hN]; exact hn
  have hx : numL n = [((N % 18446744073709551616 % 4294967296 : Nat) : Int), ((N % 18446744073709551616 / 4294967296 : Nat) : Int), ((N / 18446744073709551616 % 4294967296 : Nat) : Int), ((N / 18446744073709551616 / 4294967296 : Nat) : Int)] := by
    unfold numL
    rw [hN, and32 _ (by omega), shr32, and32 _ (by omega), shr32]
  rw [hx, hN]
  obtain ⟨r0, r1, r2, r3, r4, e, q0, q1, q2, q3, q⟩ := add5 (V % 4294967296) (V / 4294967296 % 4294967296) (V / 18446744073709551616 % 4294967296) (V / 79228162514264337593543950336 % 4294967296) (V / 340282366920938463463374607431768211456)
    (N % 18446744073709551616 % 4294967296) (N % 18446744073709551616 / 4294967296) (N / 18446744073709551616 % 4294967296) (N / 18446744073709551616 / 4294967296) (by omega) (by omega) (by omega) (by omega) (by omega) (by omega) (by omega) (by omega) (by omega)
  refine Eq.trans e (limbs_uniq q0 q1 q2 q3 ?_).symm
  omega
theorem add_law (P S : List Int) (V : Nat) (n : Num) (h : V < 1461501637330902918203684832716283019655932542976) : add2 P.length 4 (add1 P.length (numL n) 4 (P ++ limbs V ++ S)) = P ++ limbs (V + n.toNat) ++ S := by
  have h1 : 4 ≤ (limbs V).length := show 4 ≤ 5 by decide
  have h2 : 4 + 1 ≤ (add1 0 (numL n) 4 (limbs V)).length := by rw [add1_len]; exact Nat.le_refl 5
  rw [add1_mid 4 h1, add2_mid 4 h2, add_limbs V n h]
end Go.Proofs.YtpcechnalfaajaaDoor

/- The law EngineSums: Sums$1. -/
namespace Go.Proofs.YtpcechnalfaajaaDoor
open Go Go.Proofs

theorem numL_len (n : Num) : (numL n).length = 4 := rfl
set_option maxHeartbeats 1000000 in
theorem sums1_tr (b o : Nat) (L : List Int) (ho : o + 5 ≤ L.length) (n : Num) (κ : Kap) (cs : List HProp) :
    Tr Tryd.prog 54 [.pointer (some ⟨b, 0 + o, none⟩), .agg (nm n).toArray] κ (pts b (114, cells .u64 L) :: cs) (.tuple #[]) (pts b (114, cells .u64 (add2 o 4 (add1 o (numL n) 4 L))) :: cs) := by
  refine .enter Tryd.func54 rfl rfl ?_
  repeat refine .seq ?_
  refine .reg ?_
  refine .bx fun b3 => ?_
  rw [vc_agg]
  refine .go ?_
  repeat refine .seq ?_
  refine .reg ?_
  refine .fa ?_
  refine .ld ?_
  refine .an ?_
  refine .fa ?_
  refine .ld ?_
  refine .shr ?_
  refine .fa ?_
  refine .ld ?_
  refine .an ?_
  refine .fa ?_
  refine .ld ?_
  refine .shr ?_
  refine .bda (r := cells .u64 (numL n)) ?_
  refine .mv ?_
  refine .go ?_
  refine .block ?_
  have hX := numL_len n
  refine .sat (cs' := pts b (114, cells .u64 L) :: cs) (fun w hs => hs.rows) ?_
  generalize numL n = X at *
  refine .lp (fun i : Nat => [(0, .pointer (some ⟨b, 0 + o, none⟩)), (19, .agg (cells .u64 X).toArray), (20, .int .i64 i)]) (fun i => pts b (114, cells .u64 (add1 o X i L)) :: cs) (fun i => i ≤ 4) (fun i => 4 - i) 0 (by omega) (by repeat (first | exact trivial | refine ⟨rfl, ?_⟩)) rfl fun i hi => ?_
  repeat refine .seq ?_
  refine .reg ?_
  refine .lt ?_
  refine .go ?_
  repeat refine .seq ?_
  refine .cond rfl (fun hc => ?_) (fun hc => ?_)
  · have hlt : i < 4 := by have := of_decide_eq_true hc; omega
    have hl : (add1 o X i L).length = L.length := add1_len ..
    have hS : add1 o X (i + 1) L = (add1 o X i L).set (o + i) (addK .u64 ((add1 o X i L).getD (o + i) 0) (X.getD i 0)) := rfl
    generalize add1 o X i L = L1 at *
    have hg : getV false (cells .u64 L1) (o + ((i : Nat) : Int).toNat * 1) 1 = some (.int .u64 (L1.getD (o + i) 0)) := by
      rw [Nat.mul_one]; exact cells_get _ _ _ (by rw [Int.toNat_natCast]; omega)
    have hx : getV false (cells .u64 X) (((i : Nat) : Int).toNat * 1) 1 = some (.int .u64 (X.getD i 0)) := by
      rw [Nat.mul_one]; exact cells_get _ _ _ (by rw [Int.toNat_natCast]; omega)
    refine .go ?_
    repeat refine .seq ?_
    refine .block ?_
    repeat refine .seq ?_
    refine .reg ?_
    refine .mv ?_
    refine .inx hx ?_
    refine .as ?_
    refine .as ?_
    refine .go ?_
    refine .regD [(b, 0, cells .u64 L1)] [9] ?_
    refine .mv 0 ?_
    refine .mv 1 ?_
    refine .nc 2 ?_
    refine .ixa 3 ?_
    rw [Nat.add_assoc 0 o]
    refine .lx 4 hg ?_
    refine .mv 5 ?_
    refine .adw 6 ?_
    refine .nc 7 ?_
    refine .ixa 8 ?_
    rw [Nat.add_assoc 0 o]
    refine .sx 9 (r' := cells .u64 (add1 o X (i + 1) L)) ?_ ?_
    · rw [hS]
      show putN _ (0 + (o + i * 1)) _ = _
      rw [Nat.zero_add, Nat.mul_one, cells_put _ _ _ _ (by omega)]
    refine .go ?_
    refine .reg ?_
    refine .ad ?_
    refine .mv ?_
    rw [show (i : Int) + 1 = ((i + 1 : Nat) : Int) by omega]
    exact .nil fun aa w hf hs => ⟨i + 1, by omega, by omega, hf.to (by repeat (first | exact trivial | refine ⟨rfl, ?_⟩)), hs⟩
  have h4 : i = 4 := by have := of_decide_eq_false hc; omega
  subst h4
  have hl1 : (add1 o X 4 L).length = L.length := add1_len ..
  generalize add1 o X 4 L = L1 at *
  refine .xgo ?_
  repeat refine .seq ?_
  refine .reg ?_
  refine .mv ?_
  refine .go ?_
  refine .block ?_
  refine .lp (fun i : Nat => [(0, .pointer (some ⟨b, 0 + o, none⟩)), (34, .int .i64 i)]) (fun i => pts b (114, cells .u64 (add2 o i L1)) :: cs) (fun i => i ≤ 4) (fun i => 4 - i) 0 (by omega) (by repeat (first | exact trivial | refine ⟨rfl, ?_⟩)) rfl fun i hi => ?_
  repeat refine .seq ?_
  refine .reg ?_
  refine .lt ?_
  refine .go ?_
  repeat refine .seq ?_
  refine .cond rfl (fun hc => ?_) (fun hc => ?_)
  · have hlt : i < 4 := by have := of_decide_eq_true hc; omega
    have hl : (add2 o i L1).length = L1.length := add2_len ..
    have hS : add2 o (i + 1) L1 = (add2a o i (add2 o i L1)).set (o + i) (bandK .u64 ((add2a o i (add2 o i L1)).getD (o + i) 0) 4294967295) := rfl
    generalize add2 o i L1 = L2 at *
    have hg0 : getV false (cells .u64 L2) (o + ((i : Nat) : Int).toNat * 1) 1 = some (.int .u64 (L2.getD (o + i) 0)) := by
      rw [Nat.mul_one]; exact cells_get _ _ _ (by rw [Int.toNat_natCast]; omega)
    have hg1 : getV false (cells .u64 L2) (o + (((i : Nat) : Int) + 1).toNat * 1) 1 = some (.int .u64 (L2.getD (o + i + 1) 0)) := by
      rw [Nat.mul_one, show o + (((i : Nat) : Int) + 1).toNat = o + i + 1 by omega]; exact cells_get _ _ _ (by omega)
    have hS2 : add2a o i L2 = L2.set (o + i + 1) (addK .u64 (L2.getD (o + i + 1) 0) (shrK .u64 (L2.getD (o + i) 0) 32)) := rfl
    have hl3 : (add2a o i L2).length = L2.length := by rw [hS2]; simp
    refine .go ?_
    repeat refine .seq ?_
    refine .block ?_
    repeat refine .seq ?_
    refine .reg ?_
    refine .mv ?_
    refine .as ?_
    refine .go ?_
    repeat refine .seq ?_
    refine .regD [(b, 0, cells .u64 L2)] [15] ?_
    refine .mv 0 ?_
    refine .mv 1 ?_
    refine .ad 2 ?_
    refine .nc 3 ?_
    refine .ixa 4 ?_
    rw [Nat.add_assoc 0 o]
    refine .lx 5 hg1 ?_
    refine .mv 6 ?_
    refine .mv 7 ?_
    refine .nc 8 ?_
    refine .ixa 9 ?_
    rw [Nat.add_assoc 0 o]
    refine .lx 10 hg0 ?_
    refine .shr 11 ?_
    refine .adw 12 ?_
    refine .nc 13 ?_
    refine .ixa 14 ?_
    rw [Nat.add_assoc 0 o]
    refine .sx 15 (r' := cells .u64 (add2a o i L2)) ?_ ?_
    · rw [hS2, show 0 + (o + (((i : Nat) : Int) + 1).toNat * 1) = o + i + 1 by omega, cells_put _ _ _ _ (by omega)]
    generalize add2a o i L2 = L3 at *
    have hg3 : getV false (cells .u64 L3) (o + ((i : Nat) : Int).toNat * 1) 1 = some (.int .u64 (L3.getD (o + i) 0)) := by
      rw [Nat.mul_one]; exact cells_get _ _ _ (by rw [Int.toNat_natCast]; omega)
    refine .go ?_
    refine .regD [(b, 0, cells .u64 L3)] [8] ?_
    refine .mv 0 ?_
    refine .mv 1 ?_
    refine .nc 2 ?_
    refine .ixa 3 ?_
    rw [Nat.add_assoc 0 o]
    refine .lx 4 hg3 ?_
    refine .an 5 ?_
    refine .nc 6 ?_
    refine .ixa 7 ?_
    rw [Nat.add_assoc 0 o]
    refine .sx 8 (r' := cells .u64 (add2 o (i + 1) L1)) ?_ ?_
    · rw [hS]
      show putN _ (0 + (o + i * 1)) _ = _
      rw [Nat.zero_add, Nat.mul_one, cells_put _ _ _ _ (by omega)]
    refine .go ?_
    refine .reg ?_
    refine .ad ?_
    refine .mv ?_
    rw [show (i : Int) + 1 = ((i + 1 : Nat) : Int) by omega]
    exact .nil fun aa w hf hs => ⟨i + 1, by omega, by omega, hf.to (by repeat (first | exact trivial | refine ⟨rfl, ?_⟩)), hs⟩
  have h4 : i = 4 := by have := of_decide_eq_false hc; omega
  subst h4
  refine .x0 (fun w hs => ?_)
  exact ⟨rfl, hs⟩
end Go.Proofs.YtpcechnalfaajaaDoor

/- Sums over lists of which one member changes. -/
namespace Go.Proofs.YtpcechnalfaajaaDoor
open Go Go.Proofs

def sumL {α : Type} (f : α → Nat) (l : List α) : Nat := (l.map f).sum
theorem sumL_nil {α : Type} (f : α → Nat) : sumL f [] = 0 := rfl
theorem sumL_cons {α : Type} (f : α → Nat) (x : α) (l : List α) : sumL f (x :: l) = f x + sumL f l := by simp [sumL]
theorem sumL_app {α : Type} (f : α → Nat) (l m : List α) : sumL f (l ++ m) = sumL f l + sumL f m := by simp [sumL, List.map_append, List.sum_append]
theorem sumL_set {α : Type} (f : α → Nat) : ∀ (l : List α) (i : Nat) (h : i < l.length) (a : α), sumL f (l.set i a) + f l[i] = sumL f l + f a := by
  intro l
  induction l with
  | nil => intro i h; cases h
  | cons x t ih =>
    intro i h a
    cases i with
    | zero => simp only [List.set_cons_zero, sumL_cons, List.getElem_cons_zero]; omega
    | succ i =>
      have := ih i (by simpa using h) a
      simp only [List.set_cons_succ, sumL_cons, List.getElem_cons_succ]; omega
theorem sumL_le {α : Type} (f : α → Nat) : ∀ (l : List α) (i : Nat) (h : i < l.length), f l[i] ≤ sumL f l := by
  intro l
  induction l with
  | nil => intro i h; cases h
  | cons x t ih =>
    intro i h
    cases i with
    | zero => simp only [sumL_cons, List.getElem_cons_zero]; omega
    | succ i =>
      have := ih i (by simpa using h)
      simp only [sumL_cons, List.getElem_cons_succ]; omega
theorem sumL_congr {α : Type} {f g : α → Nat} {l : List α} (h : ∀ x ∈ l, f x = g x) : sumL f l = sumL g l := by
  unfold sumL
  rw [List.map_congr_left h]
theorem sumL_perm {α : Type} (f : α → Nat) {l m : List α} (h : l.Perm m) : sumL f l = sumL f m := (h.map f).sum_nat
theorem zip_set {α β : Type} : ∀ (l : List α) (m : List β) (i : Nat) (h : i < l.length) (h' : i < m.length) (a : α), (l.set i a).zip m = (l.zip m).set i (a, m[i]) := by
  intro l
  induction l with
  | nil => intro m i h; cases h
  | cons x t ih =>
    intro m i h h' a
    cases m with
    | nil => cases h'
    | cons y u =>
      cases i with
      | zero => rfl
      | succ i =>
        simp only [List.set_cons_succ, List.zip_cons_cons, List.getElem_cons_succ]
        rw [ih u i (by simpa using h) (by simpa using h') a]
end Go.Proofs.YtpcechnalfaajaaDoor

/- What the books keep: each transfer's amount, what is pending, ledgers' sums, limits. -/
namespace Go.Proofs.YtpcechnalfaajaaDoor
open Go Go.Proofs

/-- An account but for its rows. -/
def nA (a : Account) : Account := { a with time := 0, rows := 0, root := zeroH }
def pendD (T : List Transfer) (H : List Num) (x : Num) : Nat := sumL (fun p : Transfer × Num => if p.1.state = 1 ∧ p.1.debit = x then p.2.toNat else 0) (T.zip H)
def pendC (T : List Transfer) (H : List Num) (x : Num) : Nat := sumL (fun p : Transfer × Num => if p.1.state = 1 ∧ p.1.credit = x then p.2.toNat else 0) (T.zip H)
def lDp (g : Int) (a : Account) : Nat := if a.ledger = g then a.dp.toNat else 0
def lDq (g : Int) (a : Account) : Nat := if a.ledger = g then a.dq.toNat else 0
def lCp (g : Int) (a : Account) : Nat := if a.ledger = g then a.cp.toNat else 0
def lCq (g : Int) (a : Account) : Nat := if a.ledger = g then a.cq.toNat else 0
structure BokS (B : List Account) (T : List Transfer) (H : List Num) : Prop where
  fit : ∀ i (h : i < B.length), B[i].dp.toNat + B[i].dq.toNat < 340282366920938463463374607431768211456 ∧ B[i].cp.toNat + B[i].cq.toNat < 340282366920938463463374607431768211456
  win : ∀ i (h : i < B.length), withinA B[i] = true
  pd : ∀ i (h : i < B.length), B[i].dp.toNat = pendD T H B[i].id
  pc : ∀ i (h : i < B.length), B[i].cp.toNat = pendC T H B[i].id
  lp : ∀ g, sumL (lDp g) B = sumL (lCp g) B
  lq : ∀ g, sumL (lDq g) B = sumL (lCq g) B
/-- Each transfer's amount stands in its rows. -/
structure EngA (e : Eng) (H : List Num) : Prop where
  len : H.length = e.trs.length
  amt : ∀ k (h : k < e.trs.length), ∃ j, posN (e.payer e.trs[k]) e.ids = some j ∧ (∃ r ∈ e.rws.getD j [], r.tr = e.trs[k].id ∧ r.event ≥ 0) ∧ Eng.findRow e.trs[k].id (e.rws.getD j []) = H.getD k 0
  rtr : ∀ j, ∀ r ∈ e.rws.getD j [], r.tr ∈ e.tids
def LedOk (e : Eng) (t : Transfer) : Prop := ∃ d c, posN t.debit e.ids = some d ∧ posN t.credit e.ids = some c ∧ d ≠ c ∧ ((e.acc.map nA).getD d zA).ledger = ((e.acc.map nA).getD c zA).ledger
structure EngS (e : Eng) (H : List Num) : Prop where
  a : EngA e H
  acc : BokS (e.acc.map nA) e.trs H
  led : ∀ t ∈ e.trs, t.state = 1 → LedOk e t
  st : ∀ t ∈ e.trs, band t.flags 2 ≠ 0 → t.state = 1 ∨ t.state = 2 ∨ t.state = 3 ∨ t.state = 4
theorem findRow_some {a : Num} : ∀ {l m : List Row}, (∃ r ∈ l, r.tr = a ∧ r.event ≥ 0) → Eng.findRow a (l ++ m) = Eng.findRow a l := by
  intro l
  induction l with
  | nil => rintro m ⟨r, h, _⟩; cases h
  | cons x t ih =>
    rintro m ⟨r, h, h1, h2⟩
    simp only [List.cons_append, Eng.findRow]
    by_cases hx : x.tr = a ∧ x.event ≥ 0
    · rw [if_pos hx, if_pos hx]
    · rw [if_neg hx, if_neg hx]
      rcases List.mem_cons.1 h with rfl | h
      · exact absurd ⟨h1, h2⟩ hx
      · exact ih ⟨r, h, h1, h2⟩
theorem findRow_none {a : Num} : ∀ {l m : List Row}, (∀ r ∈ l, r.tr ≠ a) → Eng.findRow a (l ++ m) = Eng.findRow a m := by
  intro l
  induction l with
  | nil => intro m _; rfl
  | cons x t ih =>
    intro m h
    simp only [List.cons_append, Eng.findRow]
    rw [if_neg (fun hx => h x (by simp) hx.1)]
    exact ih (fun r hr => h r (by simp [hr]))
/-- Rows come, states change, and the time goes by. -/
theorem EngA.ext {e e' : Eng} {H : List Num} (h : EngA e H) (ht : e'.trs.map coreT = e.trs.map coreT) (hi : e'.ids = e.ids) (hr : ∀ j, ∃ m, e'.rws.getD j [] = e.rws.getD j [] ++ m ∧ ∀ r ∈ m, r.tr ∈ e.tids) : EngA e' H where
  len := by
    have := congrArg List.length ht
    simp only [List.length_map] at this
    rw [this]; exact h.len
  amt := by
    intro k hk
    have hlen : e'.trs.length = e.trs.length := by have := congrArg List.length ht; simpa using this
    have hk' : k < e.trs.length := by omega
    obtain ⟨j, h1, h2, h3⟩ := h.amt k hk'
    obtain ⟨m, hm, _⟩ := hr j
    have hc := core_at ht k
    rw [getD_at hk, getD_at hk'] at hc
    have hp : e'.payer e'.trs[k] = e.payer e.trs[k] := core_payer ht hc
    have hg := (core_eq hc).1
    refine ⟨j, by rw [hp, hi]; exact h1, ?_, ?_⟩
    · obtain ⟨r, hr1, hr2⟩ := h2
      exact ⟨r, by rw [hm]; exact List.mem_append_left _ hr1, by rw [hg]; exact hr2⟩
    · rw [hm, hg, findRow_some h2, h3]
  rtr := by
    intro j r hx
    obtain ⟨m, hm, hm2⟩ := hr j
    rw [show e'.tids = e.tids from core_tids ht]
    rw [hm] at hx
    rcases List.mem_append.1 hx with hx | hx
    · exact h.rtr j r hx
    · exact hm2 r hx
theorem EngS.ext {e e' : Eng} {H : List Num} (h : EngS e H) (ha : e'.acc.map nA = e.acc.map nA) (ht : e'.trs = e.trs) (hi : e'.ids = e.ids) (hr : ∀ j, ∃ m, e'.rws.getD j [] = e.rws.getD j [] ++ m ∧ ∀ r ∈ m, r.tr ∈ e.tids) : EngS e' H where
  a := h.a.ext (by rw [ht]) hi hr
  acc := by rw [ha, ht]; exact h.acc
  led := by
    rw [ht]
    intro t h1 h2
    unfold LedOk
    rw [hi, ha]
    exact h.led t h1 h2
  st := by rw [ht]; exact h.st
theorem getD_set {α : Type} {l : List α} {i j : Nat} {a d : α} : (l.set i a).getD j d = if i = j ∧ i < l.length then a else l.getD j d := by
  simp only [List.getD, List.getElem?_set]
  by_cases h : i = j
  · subst h
    by_cases h2 : i < l.length
    · simp [h2]
    · simp [h2]
  · simp [h]
theorem row1_nA (e : Eng) (id : Num) (ev : Int) (n : Num) (i : Nat) : (e.row1 id ev n i).acc.map nA = e.acc.map nA := by
  show (e.acc.set i { e.acc.getD i zA with rows := _, root := _ }).map nA = _
  rw [List.map_set]
  by_cases hi : i < e.acc.length
  · rw [getD_at hi]
    apply List.ext_getElem?
    intro j
    rw [List.getElem?_set]
    split
    · rename_i h; subst h; simp [hi, nA]
    · rfl
  · rw [List.set_eq_of_length_le (by simp; omega)]
theorem row1_rws (e : Eng) (id : Num) (ev : Int) (n : Num) (i j : Nat) : ∃ m, (e.row1 id ev n i).rws.getD j [] = e.rws.getD j [] ++ m ∧ ∀ r ∈ m, r.tr = id := by
  show ∃ m, (e.rws.set i _).getD j [] = _ ∧ _
  rw [getD_set]
  split
  · rename_i h
    rw [h.1]
    exact ⟨_, rfl, fun r hr => by rw [List.mem_singleton.1 hr]⟩
  · exact ⟨[], by simp, fun r hr => by cases hr⟩
theorem EngS.row1 {e : Eng} {H : List Num} (h : EngS e H) (id : Num) (hid : id ∈ e.tids) (ev : Int) (n : Num) (i : Nat) : EngS (e.row1 id ev n i) H :=
  h.ext (row1_nA ..) rfl (Eng.row1_ids ..) fun j => by
    obtain ⟨m, h1, h2⟩ := row1_rws e id ev n i j
    exact ⟨m, h1, fun r hr => by rw [h2 r hr]; exact hid⟩
/-- A transfer that is made. -/
theorem EngA.add {e : Eng} {H : List Num} (h : EngA e H) (hpo0 : ∀ u ∈ e.trs, u.pid ≠ 0 → posN u.pid e.tids ≠ none) (t : Transfer) (n : Num) (d c : Nat) (hid : t.id ∉ e.tids) (hd : d < e.rws.length)
    (hpay : posN (if t.pid = 0 then t.debit else ((e.transfer t.pid).getD zT).debit) e.ids = some d) (hpid : t.pid ≠ 0 → posN t.pid e.tids ≠ none) (hev : 0 ≤ bclr t.flags 1) :
    EngA (e.add t n d c) (H ++ [n]) ∧ (e.add t n d c).trs = e.trs ++ [{ t with time := e.time + 1, tick := e.now }] ∧ (e.add t n d c).acc.map nA = e.acc.map nA ∧ (e.add t n d c).ids = e.ids := by
  obtain ⟨t', ht'⟩ : ∃ t' : Transfer, { t with time := e.time + 1, tick := e.now } = t' := ⟨_, rfl⟩
  have hadd : e.add t n d c = ((({ e with time := e.time + 1, trs := e.trs ++ [t'] } : Eng).row1 t'.id (bclr t'.flags 1) n d).row1 t'.id (bclr t'.flags 1) n c) := by rw [← ht']; rfl
  have c1 : t'.id = t.id ∧ t'.debit = t.debit ∧ t'.credit = t.credit ∧ t'.pid = t.pid ∧ t'.flags = t.flags ∧ t'.state = t.state := by rw [← ht']; exact ⟨rfl, rfl, rfl, rfl, rfl, rfl⟩
  obtain ⟨k1, k2, k3, k4, k5, k6⟩ := c1
  rw [hadd, ht']
  generalize he2 : ({ e with time := e.time + 1, trs := e.trs ++ [t'] } : Eng) = e2
  have f1 : e2.trs = e.trs ++ [t'] := by rw [← he2]
  have f2 : e2.acc = e.acc := by rw [← he2]
  have f3 : e2.rws = e.rws := by rw [← he2]
  have f4 : e2.ids = e.ids := by unfold Eng.ids; rw [f2]
  have f5 : e2.tids = e.tids ++ [t.id] := by unfold Eng.tids; rw [f1]; simp [k1]
  obtain ⟨m1, g1⟩ : ∃ m, ∀ j, (e2.row1 t'.id (bclr t'.flags 1) n d).rws.getD j [] = e.rws.getD j [] ++ (if d = j then [m] else []) ∧ (m.tr = t'.id ∧ m.event = bclr t'.flags 1 ∧ m.amount = n) := by
    refine ⟨⟨t'.id, e2.time, bclr t'.flags 1, n, (e2.acc.getD d zA).dp, (e2.acc.getD d zA).dq, (e2.acc.getD d zA).cp, (e2.acc.getD d zA).cq⟩, fun j => ⟨?_, rfl, rfl, rfl⟩⟩
    show (e2.rws.set d (e2.rws.getD d [] ++ [_])).getD j [] = _
    rw [getD_set, f3]
    by_cases hj : d = j
    · subst hj; rw [if_pos ⟨rfl, hd⟩, if_pos rfl]
    · rw [if_neg (fun h => hj h.1), if_neg hj]; simp
  have hrows : ∀ j, ∃ mm, ((e2.row1 t'.id (bclr t'.flags 1) n d).row1 t'.id (bclr t'.flags 1) n c).rws.getD j [] = e.rws.getD j [] ++ ((if d = j then [m1] else []) ++ mm) ∧ ∀ r ∈ mm, r.tr = t'.id := by
    intro j
    obtain ⟨mm, h1, h2⟩ := row1_rws (e2.row1 t'.id (bclr t'.flags 1) n d) t'.id (bclr t'.flags 1) n c j
    exact ⟨mm, by rw [h1, (g1 j).1, List.append_assoc], h2⟩
  have hm1 := (g1 0).2
  generalize hE : (e2.row1 t'.id (bclr t'.flags 1) n d).row1 t'.id (bclr t'.flags 1) n c = E at *
  have e1 : E.trs = e.trs ++ [t'] := by rw [← hE, Eng.row1_trs, Eng.row1_trs, f1]
  have e3 : E.ids = e.ids := by rw [← hE, Eng.row1_ids, Eng.row1_ids, f4]
  have e4 : E.tids = e.tids ++ [t.id] := by rw [← hE, Eng.row1_tids, Eng.row1_tids, f5]
  have e5 : E.acc.map nA = e.acc.map nA := by rw [← hE, row1_nA, row1_nA, f2]
  have hpo : ∀ u : Transfer, (u.pid ≠ 0 → posN u.pid e.tids ≠ none) → E.payer u = e.payer u := fun u hu => payer_snoc e1 hu
  refine ⟨⟨by rw [e1]; simp [h.len], ?_, ?_⟩, e1, e5, e3⟩
  · intro k hk
    rw [e1] at hk
    rcases Nat.lt_or_ge k e.trs.length with h1 | h1
    · have hg : E.trs[k]'(by rw [e1]; exact hk) = e.trs[k] := by simp only [e1]; exact List.getElem_append_left h1
      obtain ⟨j, a1, a2, a3⟩ := h.amt k h1
      obtain ⟨mm, b1, b2⟩ := hrows j
      refine ⟨j, by rw [hg, hpo _ (hpo0 _ (List.getElem_mem h1)), e3]; exact a1, ?_, ?_⟩
      · obtain ⟨r, r1, r2⟩ := a2
        exact ⟨r, by rw [b1]; exact List.mem_append_left _ r1, by rw [hg]; exact r2⟩
      · rw [hg, b1, findRow_some a2, a3]
        simp only [List.getD, List.getElem?_append_left (show k < H.length by rw [h.len]; exact h1)]
    · have hke : k = e.trs.length := by simp at hk; omega
      subst hke
      have hg : E.trs[e.trs.length]'(by rw [e1]; exact hk) = t' := by simp only [e1]; simp
      obtain ⟨mm, b1, b2⟩ := hrows d
      rw [if_pos rfl] at b1
      refine ⟨d, ?_, ⟨m1, by rw [b1]; simp, by rw [hg]; exact hm1.1, by rw [hm1.2.1, k5]; exact hev⟩, ?_⟩
      · rw [hg, hpo t' (by rw [k4]; exact hpid), e3]
        unfold Eng.payer
        rw [k4, k2]; exact hpay
      · rw [hg, b1, findRow_none (fun r hr hx => hid (by have := h.rtr d r hr; rw [hx, k1] at this; exact this))]
        simp only [List.cons_append, Eng.findRow]
        rw [if_pos ⟨hm1.1, by rw [hm1.2.1, k5]; exact hev⟩, hm1.2.2]
        simp [List.getD, ← h.len]
  · intro j r hr
    obtain ⟨mm, b1, b2⟩ := hrows j
    rw [e4]
    rw [b1] at hr
    rcases List.mem_append.1 hr with hr | hr
    · exact List.mem_append_left _ (h.rtr j r hr)
    · apply List.mem_append_right
      rcases List.mem_append.1 hr with hr | hr
      · split at hr
        · rw [List.mem_singleton.1 hr, hm1.1, k1]; simp
        · cases hr
      · rw [b2 r hr, k1]; simp
end Go.Proofs.YtpcechnalfaajaaDoor

/- How the books' sums go on. -/
namespace Go.Proofs.YtpcechnalfaajaaDoor
open Go Go.Proofs

theorem set2_get {α : Type} {l : List α} {d c : Nat} {X Y : α} {i : Nat} (h : i < ((l.set d X).set c Y).length) : ((l.set d X).set c Y)[i] = if c = i then Y else if d = i then X else l[i]'(by simpa using h) := by
  rw [List.getElem_set]
  split
  · rfl
  · rw [List.getElem_set]
theorem sumL_set2 {α : Type} (f : α → Nat) {l : List α} {d c : Nat} {X Y : α} (hdc : d ≠ c) (hd : d < l.length) (hc : c < l.length) : sumL f ((l.set d X).set c Y) + f l[d] + f l[c] = sumL f l + f X + f Y := by
  have h1 := sumL_set f (l.set d X) c (by simpa using hc) Y
  have h2 := sumL_set f l d hd X
  have h3 : (l.set d X)[c]'(by simpa using hc) = l[c] := by rw [List.getElem_set, if_neg hdc]
  rw [h3] at h1
  omega
/-- Two accounts change: what is debited to the one is credited to the other. -/
theorem BokS.upd {B : List Account} {T T' : List Transfer} {H H' : List Num} {d c : Nat} {X Y : Account} (h : BokS B T H) (hn : (B.map (·.id)).Nodup) (hdc : d ≠ c) (hd : d < B.length) (hc : c < B.length)
    (hx : X.id = B[d].id ∧ X.ledger = B[d].ledger ∧ X.cp = B[d].cp ∧ X.cq = B[d].cq) (hy : Y.id = B[c].id ∧ Y.ledger = B[c].ledger ∧ Y.dp = B[c].dp ∧ Y.dq = B[c].dq) (hl : B[d].ledger = B[c].ledger)
    (fx : X.dp.toNat + X.dq.toNat < 340282366920938463463374607431768211456) (fy : Y.cp.toNat + Y.cq.toNat < 340282366920938463463374607431768211456) (wx : withinA X = true) (wy : withinA Y = true)
    (hpd : X.dp.toNat = pendD T' H' B[d].id) (hpc : Y.cp.toNat = pendC T' H' B[c].id) (hod : ∀ x, x ≠ B[d].id → pendD T' H' x = pendD T H x) (hoc : ∀ x, x ≠ B[c].id → pendC T' H' x = pendC T H x)
    (hp : X.dp.toNat + B[c].cp.toNat = Y.cp.toNat + B[d].dp.toNat) (hq : X.dq.toNat + B[c].cq.toNat = Y.cq.toNat + B[d].dq.toNat) : BokS ((B.set d X).set c Y) T' H' := by
  obtain ⟨x1, x2, x3, x4⟩ := hx
  obtain ⟨y1, y2, y3, y4⟩ := hy
  have hlen : ((B.set d X).set c Y).length = B.length := by simp
  have hne : ∀ i j (hi : i < B.length) (hj : j < B.length), i ≠ j → B[i].id ≠ B[j].id := by
    intro i j hi hj hij h1
    have hw := List.pairwise_iff_getElem.1 hn
    rcases Nat.lt_or_gt_of_ne hij with h2 | h2
    · exact hw i j (by simpa using hi) (by simpa using hj) h2 (by simpa using h1)
    · exact hw j i (by simpa using hj) (by simpa using hi) h2 (by simpa using h1.symm)
  constructor
  · intro i hi
    have hi' : i < B.length := by rw [hlen] at hi; exact hi
    rw [set2_get hi]
    split
    · rename_i h1; subst h1; rw [y3, y4]; exact ⟨(h.fit _ hc).1, fy⟩
    split
    · rename_i h1; subst h1; rw [x3, x4]; exact ⟨fx, (h.fit _ hd).2⟩
    · exact h.fit i hi'
  · intro i hi
    have hi' : i < B.length := by rw [hlen] at hi; exact hi
    rw [set2_get hi]
    split
    · exact wy
    split
    · exact wx
    · exact h.win i hi'
  · intro i hi
    have hi' : i < B.length := by rw [hlen] at hi; exact hi
    rw [set2_get hi]
    split
    · rename_i h1; subst h1; rw [y3, y1, hod _ (hne _ _ hc hd (Ne.symm hdc))]; exact h.pd _ hc
    split
    · rename_i h1; subst h1; rw [x1]; exact hpd
    · rename_i h1; rw [hod _ (hne _ _ hi' hd (Ne.symm h1))]; exact h.pd i hi'
  · intro i hi
    have hi' : i < B.length := by rw [hlen] at hi; exact hi
    rw [set2_get hi]
    split
    · rename_i h1; subst h1; rw [y1]; exact hpc
    rename_i h0
    split
    · rename_i h1; subst h1; rw [x3, x1, hoc _ (hne _ _ hd hc hdc)]; exact h.pc _ hd
    · rw [hoc _ (hne _ _ hi' hc (Ne.symm h0))]; exact h.pc i hi'
  · intro g
    have a1 := sumL_set2 (lDp g) (X := X) (Y := Y) hdc hd hc
    have a2 := sumL_set2 (lCp g) (X := X) (Y := Y) hdc hd hc
    have a3 := h.lp g
    unfold lDp lCp at *
    rw [x2, y2, x3, y3, ← hl] at *
    by_cases hg : B[d].ledger = g
    · simp only [if_pos hg] at a1 a2; omega
    · simp only [if_neg hg] at a1 a2; omega
  · intro g
    have a1 := sumL_set2 (lDq g) (X := X) (Y := Y) hdc hd hc
    have a2 := sumL_set2 (lCq g) (X := X) (Y := Y) hdc hd hc
    have a3 := h.lq g
    unfold lDq lCq at *
    rw [x2, y2, x4, y4, ← hl] at *
    by_cases hg : B[d].ledger = g
    · simp only [if_pos hg] at a1 a2; omega
    · simp only [if_neg hg] at a1 a2; omega
/-- One account more, that has nothing. -/
theorem BokS.snoc {B : List Account} {T : List Transfer} {H : List Num} (h : BokS B T H) (A : Account) (h0 : A.dp = 0 ∧ A.dq = 0 ∧ A.cp = 0 ∧ A.cq = 0) (hd : pendD T H A.id = 0) (hc : pendC T H A.id = 0) : BokS (B ++ [A]) T H := by
  obtain ⟨a1, a2, a3, a4⟩ := h0
  have z : (0 : Num).toNat = 0 := by decide
  have key : ∀ (P : Account → Prop), P A → (∀ i (hi : i < B.length), P B[i]) → ∀ i (hi : i < (B ++ [A]).length), P (B ++ [A])[i] := by
    intro P h1 h2 i hi
    rcases Nat.lt_or_ge i B.length with hl | hl
    · rw [List.getElem_append_left hl]; exact h2 i hl
    · have : i = B.length := by simp at hi; omega
      subst this
      simpa using h1
  constructor
  · exact key (fun a => a.dp.toNat + a.dq.toNat < 340282366920938463463374607431768211456 ∧ a.cp.toNat + a.cq.toNat < 340282366920938463463374607431768211456) (by rw [a1, a2, a3, a4, z]; decide) h.fit
  · refine key (fun a => withinA a = true) ?_ h.win
    have z1 : fitN [(0 : Num), 0] = true := by decide
    have z2 : (addN [(0 : Num), 0]).toNat = 0 := by decide
    unfold withinA
    rw [a1, a2, a3, a4, z1, z2]
    simp
  · exact key (fun a => a.dp.toNat = pendD T H a.id) (by rw [hd, a1, z]) h.pd
  · exact key (fun a => a.cp.toNat = pendC T H a.id) (by rw [hc, a3, z]) h.pc
  · intro g
    have := h.lp g
    simp only [sumL_app, sumL_cons, sumL_nil, lDp, lCp, a1, a3]
    simp only [sumL, lDp, lCp] at this ⊢
    split <;> omega
  · intro g
    have := h.lq g
    simp only [sumL_app, sumL_cons, sumL_nil, lDq, lCq, a2, a4]
    simp only [sumL, lDq, lCq] at this ⊢
    split <;> omega
theorem pendD_snoc {T : List Transfer} {H : List Num} (hl : H.length = T.length) (t : Transfer) (n x : Num) : pendD (T ++ [t]) (H ++ [n]) x = pendD T H x + (if t.state = 1 ∧ t.debit = x then n.toNat else 0) := by
  unfold pendD
  rw [List.zip_append hl.symm, sumL_app]
  rfl
theorem pendC_snoc {T : List Transfer} {H : List Num} (hl : H.length = T.length) (t : Transfer) (n x : Num) : pendC (T ++ [t]) (H ++ [n]) x = pendC T H x + (if t.state = 1 ∧ t.credit = x then n.toNat else 0) := by
  unfold pendC
  rw [List.zip_append hl.symm, sumL_app]
  rfl
theorem pendD_set {T : List Transfer} {H : List Num} {k : Nat} (hk : k < T.length) (hl : H.length = T.length) (p : Transfer) (hp : p.state ≠ 1) (x : Num) : pendD (T.set k p) H x + (if T[k].state = 1 ∧ T[k].debit = x then (H[k]'(by omega)).toNat else 0) = pendD T H x := by
  unfold pendD
  have hz : k < (T.zip H).length := by rw [List.length_zip]; omega
  have := sumL_set (fun p : Transfer × Num => if p.1.state = 1 ∧ p.1.debit = x then p.2.toNat else 0) (T.zip H) k hz (p, H[k]'(by omega))
  rw [zip_set T H k hk (by omega)]
  simp only [List.getElem_zip] at this
  rw [if_neg (fun h : p.state = 1 ∧ p.debit = x => hp h.1)] at this
  omega
theorem pendC_set {T : List Transfer} {H : List Num} {k : Nat} (hk : k < T.length) (hl : H.length = T.length) (p : Transfer) (hp : p.state ≠ 1) (x : Num) : pendC (T.set k p) H x + (if T[k].state = 1 ∧ T[k].credit = x then (H[k]'(by omega)).toNat else 0) = pendC T H x := by
  unfold pendC
  have hz : k < (T.zip H).length := by rw [List.length_zip]; omega
  have := sumL_set (fun p : Transfer × Num => if p.1.state = 1 ∧ p.1.credit = x then p.2.toNat else 0) (T.zip H) k hz (p, H[k]'(by omega))
  rw [zip_set T H k hk (by omega)]
  simp only [List.getElem_zip] at this
  rw [if_neg (fun h : p.state = 1 ∧ p.credit = x => hp h.1)] at this
  omega
/-- What nobody is party to. -/
theorem pend_none {T : List Transfer} {H : List Num} {x : Num} (h : ∀ t ∈ T, t.state = 1 → t.debit ≠ x ∧ t.credit ≠ x) : pendD T H x = 0 ∧ pendC T H x = 0 := by
  have z : ∀ l : List (Transfer × Num), sumL (fun _ => 0) l = 0 := by
    intro l
    induction l with
    | nil => rfl
    | cons a t ih => rw [sumL_cons, ih]
  unfold pendD pendC
  constructor
  · rw [sumL_congr (g := fun _ => 0) (fun p hp => if_neg (fun hh => (h p.1 (List.of_mem_zip hp).1 hh.1).1 hh.2)), z]
  · rw [sumL_congr (g := fun _ => 0) (fun p hp => if_neg (fun hh => (h p.1 (List.of_mem_zip hp).1 hh.1).2 hh.2)), z]
theorem addN_two {a b : Num} (h : a.toNat + b.toNat < 340282366920938463463374607431768211456) : (addN [a, b]).toNat = a.toNat + b.toNat := by
  unfold addN
  simp only [List.map_cons, List.map_nil, List.sum_cons, List.sum_nil, Nat.add_zero]
  rw [if_pos h, BitVec.toNat_ofNat, Nat.mod_eq_of_lt h]
theorem fit_lt {a b : Num} (h : fitN [a, b] = true) : a.toNat + b.toNat < 340282366920938463463374607431768211456 := by
  unfold fitN at h
  simp only [List.map_cons, List.map_nil, List.sum_cons, List.sum_nil, Nat.add_zero] at h
  exact of_decide_eq_true h
theorem fit_gt {a b : Num} (h : a.toNat + b.toNat < 340282366920938463463374607431768211456) : fitN [a, b] = true := by
  unfold fitN
  simp only [List.map_cons, List.map_nil, List.sum_cons, List.sum_nil, Nat.add_zero]
  exact decide_eq_true h
/-- An account that had room has it still. -/
theorem win_mono {x y : Account} (f1 : x.dp.toNat + x.dq.toNat < 340282366920938463463374607431768211456) (f2 : x.cp.toNat + x.cq.toNat < 340282366920938463463374607431768211456) (hw : withinA x = true) (hf2 : band y.flags 2 = band x.flags 2) (hf4 : band y.flags 4 = band x.flags 4)
    (h1 : y.dp.toNat + y.dq.toNat ≤ x.dp.toNat + x.dq.toNat) (h2 : x.cq.toNat ≤ y.cq.toNat) (h3 : y.cp.toNat + y.cq.toNat ≤ x.cp.toNat + x.cq.toNat) (h4 : x.dq.toNat ≤ y.dq.toNat) : withinA y = true := by
  unfold withinA at hw ⊢
  rw [fit_gt f1, fit_gt f2, addN_two f1, addN_two f2] at hw
  rw [hf2, hf4, fit_gt (by omega), fit_gt (by omega), addN_two (by omega), addN_two (by omega)]
  simp only [Bool.not_true, Bool.false_or, Bool.true_and, Bool.and_eq_true, Bool.or_eq_true, Bool.not_eq_true', Bool.and_eq_false_iff, decide_eq_true_eq, decide_eq_false_iff_not] at hw ⊢
  refine ⟨hw.1.imp id (by omega), hw.2.imp id (by omega)⟩
theorem bor_bit (y a m : BitVec 64) (h : a &&& m = 0#64) : (y ||| a) &&& m = y &&& m := by
  apply BitVec.eq_of_getLsbD_eq
  intro i hi
  have := congrArg (fun v : BitVec 64 => v.getLsbD i) h
  simp only [BitVec.getLsbD_and, BitVec.getLsbD_or, BitVec.getLsbD_zero] at this ⊢
  generalize y.getLsbD i = p at *
  generalize a.getLsbD i = q at *
  generalize m.getLsbD i = r at *
  revert this
  cases p <;> cases q <;> cases r <;> decide
theorem bor8 (f m : Int) (hm : BitVec.ofInt 64 8 &&& BitVec.ofInt 64 m = 0#64) : band (bor f 8) m = band f m := by
  show IntKind.i64.wrap ((BitVec.ofInt 64 (IntKind.i64.wrap ((BitVec.ofInt 64 f ||| BitVec.ofInt 64 8).toNat : Int)) &&& BitVec.ofInt 64 m).toNat : Int) = IntKind.i64.wrap ((BitVec.ofInt 64 f &&& BitVec.ofInt 64 m).toNat : Int)
  rw [i64_bv, bor_bit _ _ _ hm]
theorem bclr8 (f m : Int) (hm : ~~~ BitVec.ofInt 64 8 &&& BitVec.ofInt 64 m = BitVec.ofInt 64 m) : band (bclr f 8) m = band f m := by
  show IntKind.i64.wrap ((BitVec.ofInt 64 (IntKind.i64.wrap ((BitVec.ofInt 64 f &&& ~~~ BitVec.ofInt 64 8).toNat : Int)) &&& BitVec.ofInt 64 m).toNat : Int) = IntKind.i64.wrap ((BitVec.ofInt 64 f &&& BitVec.ofInt 64 m).toNat : Int)
  rw [i64_bv, BitVec.and_assoc, hm]
end Go.Proofs.YtpcechnalfaajaaDoor

/- What the books keep is kept by each step. -/
namespace Go.Proofs.YtpcechnalfaajaaDoor
open Go Go.Proofs

theorem posN_at : ∀ {l : List Num} (_ : l.Nodup) {k : Nat} (h : k < l.length), posN l[k] l = some k := by
  intro l
  induction l with
  | nil => intro _ k h; cases h
  | cons x t ih =>
    intro hn k h
    have hx := List.nodup_cons.1 hn
    cases k with
    | zero => simp [posN]
    | succ k =>
      have h' : k < t.length := by simpa using h
      rw [List.getElem_cons_succ]
      unfold posN
      rw [if_neg (fun he : x = t[k] => hx.1 (by rw [he]; exact List.getElem_mem h')), ih hx.2 h']
      rfl
theorem EngA.amount {e : Eng} {H : List Num} (h : EngA e H) (hn : e.tids.Nodup) {k : Nat} (hk : k < e.trs.length) : e.amount e.trs[k].id = H.getD k 0 := by
  have hkt : k < e.tids.length := by simpa [Eng.tids] using hk
  have hid : e.tids[k] = e.trs[k].id := by simp [Eng.tids]
  have h1 : e.transfer e.trs[k].id = some e.trs[k] := by
    unfold Eng.transfer
    rw [← hid, posN_at hn hkt, Option.map_some, getD_at hk]
  obtain ⟨j, h2, _, h4⟩ := h.amt k hk
  unfold Eng.amount
  rw [h1]
  simp only
  unfold Eng.rowsOf
  rw [h2, Option.map_some, Option.getD_some, h4]
theorem nA_getD (l : List Account) (j : Nat) : (l.map nA).getD j zA = nA (l.getD j zA) := by
  simp only [List.getD, List.getElem?_map]
  cases l[j]? <;> rfl
theorem nA_set2 (l : List Account) (d c : Nat) (X Y : Account) : ((l.set d X).set c Y).map nA = ((l.map nA).set d (nA X)).set c (nA Y) := by rw [List.map_set, List.map_set]
theorem nA_at {l : List Account} {j : Nat} (h : j < l.length) : (l.map nA)[j]'(by simpa using h) = nA (l.getD j zA) := by rw [getD_at h]; simp
theorem set2_led {l : List Account} {d c : Nat} {X Y : Account} (hd : d < l.length) (hc : c < l.length) (hx : X.ledger = l[d].ledger) (hy : Y.ledger = l[c].ledger) (j : Nat) : (((l.set d X).set c Y).getD j zA).ledger = (l.getD j zA).ledger := by
  rw [getD_set]
  split
  · rename_i h; rw [← h.1, hy, getD_at hc]
  rw [getD_set]
  split
  · rename_i h; rw [← h.1, hx, getD_at hd]
  · rfl
theorem LedOk.ext {e E : Eng} (hi : E.ids = e.ids) (hl : ∀ j, ((E.acc.map nA).getD j zA).ledger = ((e.acc.map nA).getD j zA).ledger) {t t' : Transfer} (h1 : t'.debit = t.debit) (h2 : t'.credit = t.credit) (h : LedOk e t) : LedOk E t' := by
  obtain ⟨d, c, a1, a2, a3, a4⟩ := h
  exact ⟨d, c, by rw [hi, h1]; exact a1, by rw [hi, h2]; exact a2, a3, by rw [hl, hl]; exact a4⟩
/-- What a pending transfer held is let go, and perhaps posted. -/
def relX (f : Int) (held n : Num) (x : Account) : Account := { x with dp := subN x.dp held, dq := addN [x.dq, n], flags := f }
def relY (f : Int) (held n : Num) (y : Account) : Account := { y with cp := subN y.cp held, cq := addN [y.cq, n], flags := f }
theorem BokS.rel {B : List Account} {T : List Transfer} {H : List Num} {k d c : Nat} (h : BokS B T H) (hn : (B.map (·.id)).Nodup) (hk : k < T.length) (hl : H.length = T.length) (hs : T[k].state = 1) (hdc : d ≠ c) (hd : d < B.length) (hc : c < B.length) (hdB : B[d].id = T[k].debit) (hcB : B[c].id = T[k].credit)
    (hle : B[d].ledger = B[c].ledger) (q : Transfer) (hq : q.state ≠ 1) (fx fy : Int) (hx2 : band fx 2 = band B[d].flags 2) (hx4 : band fx 4 = band B[d].flags 4) (hy2 : band fy 2 = band B[c].flags 2) (hy4 : band fy 4 = band B[c].flags 4) (n : Num) (hn2 : n.toNat ≤ (H.getD k 0).toNat) :
    BokS ((B.set d (relX fx (H.getD k 0) n B[d])).set c (relY fy (H.getD k 0) n B[c])) (T.set k q) H ∧ (relX fx (H.getD k 0) n B[d]).ledger = B[d].ledger := by
  have hkH : k < H.length := by omega
  have hH : H.getD k 0 = H[k] := getD_at hkH
  rw [hH] at hn2 ⊢
  have p1 := h.pd d hd
  have p2 := h.pc c hc
  have s1 := pendD_set hk hl q hq
  have s2 := pendC_set hk hl q hq
  have l1 : H[k].toNat ≤ B[d].dp.toNat := by
    have := s1 B[d].id
    rw [if_pos ⟨hs, hdB.symm⟩] at this
    omega
  have l2 : H[k].toNat ≤ B[c].cp.toNat := by
    have := s2 B[c].id
    rw [if_pos ⟨hs, hcB.symm⟩] at this
    omega
  have u1 : (subN B[d].dp H[k]).toNat = B[d].dp.toNat - H[k].toNat := by
    unfold subN
    rw [if_neg (by omega), BitVec.toNat_sub]
    have := B[d].dp.isLt
    have := H[k].isLt
    omega
  have u2 : (subN B[c].cp H[k]).toNat = B[c].cp.toNat - H[k].toNat := by
    unfold subN
    rw [if_neg (by omega), BitVec.toNat_sub]
    have := B[c].cp.isLt
    have := H[k].isLt
    omega
  have f1 := h.fit d hd
  have f2 := h.fit c hc
  have v1 : (addN [B[d].dq, n]).toNat = B[d].dq.toNat + n.toNat := addN_two (by omega)
  have v2 : (addN [B[c].cq, n]).toNat = B[c].cq.toNat + n.toNat := addN_two (by omega)
  refine ⟨h.upd hn hdc hd hc ⟨rfl, rfl, rfl, rfl⟩ ⟨rfl, rfl, rfl, rfl⟩ hle ?_ ?_ ?_ ?_ ?_ ?_ ?_ ?_ ?_ ?_, rfl⟩
  · show (subN B[d].dp H[k]).toNat + (addN [B[d].dq, n]).toNat < _
    omega
  · show (subN B[c].cp H[k]).toNat + (addN [B[c].cq, n]).toNat < _
    omega
  · refine win_mono f1.1 f1.2 (h.win d hd) hx2 hx4 ?_ (Nat.le_refl _) (Nat.le_refl _) ?_
    · show (subN B[d].dp H[k]).toNat + (addN [B[d].dq, n]).toNat ≤ _
      omega
    · show _ ≤ (addN [B[d].dq, n]).toNat
      omega
  · refine win_mono f2.1 f2.2 (h.win c hc) hy2 hy4 (Nat.le_refl _) ?_ ?_ (Nat.le_refl _)
    · show _ ≤ (addN [B[c].cq, n]).toNat
      omega
    · show (subN B[c].cp H[k]).toNat + (addN [B[c].cq, n]).toNat ≤ _
      omega
  · show (subN B[d].dp H[k]).toNat = _
    have := s1 B[d].id
    rw [if_pos ⟨hs, hdB.symm⟩] at this
    omega
  · show (subN B[c].cp H[k]).toNat = _
    have := s2 B[c].id
    rw [if_pos ⟨hs, hcB.symm⟩] at this
    omega
  · intro x hx
    have := s1 x
    rw [if_neg (fun hh => hx (by rw [hdB, hh.2]))] at this
    omega
  · intro x hx
    have := s2 x
    rw [if_neg (fun hh => hx (by rw [hcB, hh.2]))] at this
    omega
  · show (subN B[d].dp H[k]).toNat + _ = (subN B[c].cp H[k]).toNat + _
    omega
  · show (addN [B[d].dq, n]).toNat + _ = (addN [B[c].cq, n]).toNat + _
    omega
theorem set_back {α : Type} {l : List α} {d c : Nat} (hdc : d ≠ c) (a b a' : α) : ((l.set d a).set c b).set d a' = (l.set d a').set c b := by
  rw [List.set_comm _ _ hdc, List.set_set]
  exact List.set_comm _ _ (Ne.symm hdc)
def relF (nothing : Bool) (p : Transfer) (m f : Int) : Int := if nothing = true ∧ band p.flags m ≠ 0 then bclr f 8 else f
theorem release_set (e : Eng) (p : Transfer) (held : Num) {d c : Nat} (nothing : Bool) (hdc : d ≠ c) (hd : d < e.acc.length) (hc : c < e.acc.length) : e.release p held d c nothing =
    { e with acc := (e.acc.set d { e.acc.getD d zA with dp := subN (e.acc.getD d zA).dp held, flags := relF nothing p 64 (e.acc.getD d zA).flags }).set c { e.acc.getD c zA with cp := subN (e.acc.getD c zA).cp held, flags := relF nothing p 128 (e.acc.getD c zA).flags } } := by
  unfold Eng.release relF
  generalize hx : e.acc.getD d zA = x
  have g1 : ∀ X : Account, (e.acc.set d X).getD c zA = e.acc.getD c zA := fun X => by rw [getD_set, if_neg (fun h => hdc h.1)]
  have g2 : ∀ X Y : Account, ((e.acc.set d X).set c Y).getD d zA = X := fun X Y => by rw [getD_set, if_neg (fun h => hdc h.1.symm), getD_set, if_pos ⟨rfl, hd⟩]
  have g3 : ∀ X Y : Account, ((e.acc.set d X).set c Y).getD c zA = Y := fun X Y => by rw [getD_set, if_pos ⟨rfl, by simpa using hc⟩]
  by_cases h1 : nothing = true ∧ band p.flags 64 ≠ 0
  · by_cases h2 : nothing = true ∧ band p.flags 128 ≠ 0
    · simp only [if_pos h1, if_pos h2, g1, g2, set_back hdc, g3, List.set_set]
    · simp only [if_pos h1, if_neg h2, g1, g2, set_back hdc]
  · by_cases h2 : nothing = true ∧ band p.flags 128 ≠ 0
    · simp only [if_neg h1, if_pos h2, g1, g3, List.set_set]
    · simp only [if_neg h1, if_neg h2, g1]
theorem post_set (e : Eng) (n : Num) {d c : Nat} (hdc : d ≠ c) : e.post n d c = { e with acc := (e.acc.set d { e.acc.getD d zA with dq := addN [(e.acc.getD d zA).dq, n] }).set c { e.acc.getD c zA with cq := addN [(e.acc.getD c zA).cq, n] } } := by
  unfold Eng.post
  have g1 : ∀ X : Account, (e.acc.set d X).getD c zA = e.acc.getD c zA := fun X => by rw [getD_set, if_neg (fun h => hdc h.1)]
  simp only [g1]
theorem relF_band (nothing : Bool) (p : Transfer) (m f : Int) : band (relF nothing p m f) 2 = band f 2 ∧ band (relF nothing p m f) 4 = band f 4 := by
  unfold relF
  split
  · exact ⟨bclr8 _ _ (by decide), bclr8 _ _ (by decide)⟩
  · exact ⟨rfl, rfl⟩
theorem addN_0 (n : Num) : addN [n, 0] = n := by
  have := n.isLt
  have h : n.toNat < 340282366920938463463374607431768211456 := this
  unfold addN
  simp [h]
end Go.Proofs.YtpcechnalfaajaaDoor

/- Each step keeps the books' sums. -/
namespace Go.Proofs.YtpcechnalfaajaaDoor
open Go Go.Proofs

theorem ids_map {e : Eng} : (e.acc.map nA).map (·.id) = e.ids := by
  unfold Eng.ids
  rw [List.map_map]
  exact List.map_congr_left fun _ _ => rfl
theorem EngS.makeAccount {m : Nat} {e : Eng} {H : List Num} (h : EngS e H) (hW : EngW m e) (a : Account) : EngS (e.makeAccount a).1 H := by
  unfold Eng.makeAccount
  split
  · exact h
  split
  · exact h
  rename_i hp
  split
  · exact h
  have hna : a.id ∉ e.ids := by
    unfold Eng.account at hp
    rw [Option.map_eq_none_iff, posN_none] at hp
    exact hp
  generalize hA : (⟨a.id, a.ledger, bclr a.flags 1, 0, 0, 0, 0, e.time + 1, 0, rootN []⟩ : Account) = A
  have hAi : A.id = a.id := by rw [← hA]
  have h0 : A.dp = 0 ∧ A.dq = 0 ∧ A.cp = 0 ∧ A.cq = 0 := by rw [← hA]; exact ⟨rfl, rfl, rfl, rfl⟩
  generalize hE : ({ e with time := e.time + 1, acc := e.acc ++ [A], rws := e.rws ++ [[]] } : Eng) = E
  have g1 : E.trs = e.trs := by rw [← hE]
  have g2 : E.ids = e.ids ++ [a.id] := by rw [← hE]; simp [Eng.ids, hAi]
  have g3 : E.acc.map nA = e.acc.map nA ++ [nA A] := by rw [← hE]; simp
  have g4 : ∀ j, E.rws.getD j [] = e.rws.getD j [] := by
    intro j
    rw [← hE]
    simp only [List.getD, List.getElem?_append]
    split
    · rfl
    · rename_i hj
      rw [List.getElem?_eq_none (by omega : e.rws.length ≤ j)]
      cases hk : j - e.rws.length <;> simp
  have g5 : ∀ {x : Num} {j : Nat}, posN x e.ids = some j → posN x E.ids = some j := fun h => by rw [g2, posN_app, h]; rfl
  have g6 : E.tids = e.tids := by unfold Eng.tids; rw [g1]
  have g7 : ∀ t, E.payer t = e.payer t := fun t => by unfold Eng.payer Eng.transfer; rw [g6, g1]
  have g8 : ∀ {j : Nat} {x : Num}, posN x e.ids = some j → (E.acc.map nA).getD j zA = (e.acc.map nA).getD j zA := by
    intro j x hj
    obtain ⟨h1, _⟩ := posN_some hj
    rw [g3]
    simp only [List.getD]
    rw [List.getElem?_append_left (by simpa [Eng.ids] using h1)]
  refine ⟨⟨by rw [g1]; exact h.a.len, ?_, ?_⟩, ?_, ?_, ?_⟩
  · intro k hk
    obtain ⟨j, a1, a2, a3⟩ := h.a.amt k (by rw [g1] at hk; exact hk)
    have hg : E.trs[k] = e.trs[k]'(by rw [g1] at hk; exact hk) := by simp only [g1]
    exact ⟨j, by rw [hg, g7]; exact g5 a1, by rw [g4, hg]; exact a2, by rw [g4, hg]; exact a3⟩
  · intro j r hr
    rw [g4] at hr
    rw [g6]
    exact h.a.rtr j r hr
  · rw [g3, g1]
    have hz := pend_none (T := e.trs) (H := H) (x := A.id) (fun t ht hs => by
      obtain ⟨d, c, b1, b2, _⟩ := h.led t ht hs
      rw [hAi]
      exact ⟨fun hx => hna (by rw [← hx, ← posN_mem, b1]; simp), fun hx => hna (by rw [← hx, ← posN_mem, b2]; simp)⟩)
    exact h.acc.snoc (nA A) h0 hz.1 hz.2
  · rw [g1]
    intro t ht hs
    obtain ⟨d, c, b1, b2, b3, b4⟩ := h.led t ht hs
    exact ⟨d, c, g5 b1, g5 b2, b3, by rw [g8 b1, g8 b2]; exact b4⟩
  · rw [g1]; exact h.st
theorem win_flag {x : Account} {f : Int} (h2 : band f 2 = band x.flags 2) (h4 : band f 4 = band x.flags 4) : withinA { x with flags := f } = withinA x := by
  unfold withinA
  rw [h2, h4]
theorem firC_form (t : Transfer) (m : Int) (x : Account) : ∃ f, firC t m x = { x with flags := f } ∧ band f 2 = band x.flags 2 ∧ band f 4 = band x.flags 4 := by
  unfold firC
  split
  · exact ⟨_, rfl, bor8 _ _ (by decide), bor8 _ _ (by decide)⟩
  · exact ⟨x.flags, rfl, rfl, rfl⟩
theorem EngS.first {m : Nat} {e : Eng} {H : List Num} (h : EngS e H) (hW : EngW m e) (t : Transfer) {d c : Nat} (hid : t.id ∉ e.tids) (hp : t.pid = 0) (hd : posN t.debit e.ids = some d) (hc : posN t.credit e.ids = some c) (hdc : d ≠ c)
    (hl : (e.acc.getD d zA).ledger = (e.acc.getD c zA).ledger) (hf : 0 ≤ bclr t.flags 1) : ∃ H', EngS (e.first t d c).1 H' := by
  rw [first_eq e t d c rfl rfl rfl rfl rfl rfl rfl]
  split
  · exact ⟨H, h⟩
  rename_i hfit
  split
  · exact ⟨H, h⟩
  rename_i hw1
  split
  · exact ⟨H, h⟩
  rename_i hw2
  have hd' : d < e.acc.length := by obtain ⟨h1, _⟩ := posN_some hd; simpa [Eng.ids] using h1
  have hc' : c < e.acc.length := by obtain ⟨h1, _⟩ := posN_some hc; simpa [Eng.ids] using h1
  have hdi : (e.acc.getD d zA).id = t.debit := by obtain ⟨h1, h2⟩ := posN_some hd; rw [getD_at hd']; simpa [Eng.ids] using h2
  have hci : (e.acc.getD c zA).id = t.credit := by obtain ⟨h1, h2⟩ := posN_some hc; rw [getD_at hc']; simpa [Eng.ids] using h2
  have hdr : d < e.rws.length := by rw [hW.lr]; exact hd'
  generalize Eng.firstAmount t (e.acc.getD d zA) (e.acc.getD c zA) = n at *
  have hB : d < (e.acc.map nA).length := by simpa using hd'
  have hB' : c < (e.acc.map nA).length := by simpa using hc'
  have bx : (e.acc.map nA)[d] = nA (e.acc.getD d zA) := nA_at hd'
  have by' : (e.acc.map nA)[c] = nA (e.acc.getD c zA) := nA_at hc'
  have ff1 := h.acc.fit d hB
  have ff2 := h.acc.fit c hB'
  have pp1 := h.acc.pd d hB
  have pp2 := h.acc.pc c hB'
  rw [bx] at ff1 pp1
  rw [by'] at ff2 pp2
  have hids := set2_ids (A := e.acc) (d := d) (c := c) (x := firC t 64 (firX t n (e.acc.getD d zA))) (y := firC t 128 (firY t n (e.acc.getD c zA))) (by rw [firC_id, firX_id]) (by rw [firC_id, firY_id])
  generalize e.acc.getD d zA = x at *
  generalize e.acc.getD c zA = y at *
  obtain ⟨f1, hf1, k2, k4⟩ := firC_form t 64 (firX t n x)
  obtain ⟨f2, hf2, j2, j4⟩ := firC_form t 128 (firY t n y)
  rw [hf1, hf2] at hids ⊢
  have hX : (firX t n x).id = x.id ∧ (firX t n x).ledger = x.ledger ∧ (firX t n x).cp = x.cp ∧ (firX t n x).cq = x.cq := by unfold firX; split <;> exact ⟨rfl, rfl, rfl, rfl⟩
  have hY : (firY t n y).id = y.id ∧ (firY t n y).ledger = y.ledger ∧ (firY t n y).dp = y.dp ∧ (firY t n y).dq = y.dq := by unfold firY; split <;> exact ⟨rfl, rfl, rfl, rfl⟩
  simp only [not_or, Bool.not_eq_false] at hfit hw1 hw2
  have e1 : ({ e with acc := (e.acc.set d { firX t n x with flags := f1 }).set c { firY t n y with flags := f2 } } : Eng).trs = e.trs := rfl
  have hA1 : EngA ({ e with acc := (e.acc.set d { firX t n x with flags := f1 }).set c { firY t n y with flags := f2 } } : Eng) H := h.a.ext rfl hids (fun j => ⟨[], by simp, fun r hr => by cases hr⟩)
  have i1 : ({ e with acc := (e.acc.set d { firX t n x with flags := f1 }).set c { firY t n y with flags := f2 } } : Eng).ids = e.ids := hids
  have n1 : ({ e with acc := (e.acc.set d { firX t n x with flags := f1 }).set c { firY t n y with flags := f2 } } : Eng).acc.map nA = ((e.acc.map nA).set d (nA { firX t n x with flags := f1 })).set c (nA { firY t n y with flags := f2 }) := nA_set2 ..
  have r1 : ({ e with acc := (e.acc.set d { firX t n x with flags := f1 }).set c { firY t n y with flags := f2 } } : Eng).rws = e.rws := rfl
  have t1 : ({ e with acc := (e.acc.set d { firX t n x with flags := f1 }).set c { firY t n y with flags := f2 } } : Eng).tids = e.tids := rfl
  generalize ({ e with acc := (e.acc.set d { firX t n x with flags := f1 }).set c { firY t n y with flags := f2 } } : Eng) = E1 at *
  have hadd := hA1.add (by rw [e1, t1]; exact hW.hpid) { t with state := if pendT t then 1 else 0 } n d c (by rw [t1]; exact hid) (by rw [r1]; exact hdr)
    (by show posN (if t.pid = 0 then _ else _) _ = _; rw [if_pos hp, i1]; exact hd) (fun hx => absurd hp hx) hf
  obtain ⟨a1, a2, a3, a4⟩ := hadd
  generalize E1.add { t with state := if pendT t then 1 else 0 } n d c = E at *
  have hlen : H.length = e.trs.length := h.a.len
  generalize ht' : ({ { t with state := if pendT t then 1 else 0 } with time := E1.time + 1, tick := E1.now } : Transfer) = t' at *
  have c1 : t'.debit = t.debit ∧ t'.credit = t.credit ∧ t'.flags = t.flags ∧ t'.state = if pendT t then 1 else 0 := by rw [← ht']; exact ⟨rfl, rfl, rfl, rfl⟩
  obtain ⟨c1, c2, c3, c4⟩ := c1
  rw [e1] at a2
  rw [i1] at a4
  rw [n1] at a3
  have hleds : ∀ j, ((E.acc.map nA).getD j zA).ledger = ((e.acc.map nA).getD j zA).ledger := fun j => by
    rw [a3]
    exact set2_led hB hB' (by rw [bx]; exact hX.2.1) (by rw [by']; exact hY.2.1) j
  refine ⟨H ++ [n], a1, ?_, ?_, ?_⟩
  · rw [a3, a2]
    have q1 := fun x => pendD_snoc hlen t' n x
    have q2 := fun x => pendC_snoc hlen t' n x
    have w1 : withinA (nA { firX t n x with flags := f1 }) = true := (win_flag (x := firX t n x) k2 k4).trans hw1
    have w2 : withinA (nA { firY t n y with flags := f2 }) = true := (win_flag (x := firY t n y) j2 j4).trans hw2
    have u1 := fit_lt hfit.2.2.1
    have u2 := fit_lt hfit.2.2.2
    have hxi : (nA x).id = t.debit := hdi
    have hyi : (nA y).id = t.credit := hci
    have core : ((firX t n x).dp.toNat = x.dp.toNat + (if pendT t then n.toNat else 0)) ∧ ((firX t n x).dq.toNat = x.dq.toNat + (if pendT t then 0 else n.toNat)) ∧ ((firY t n y).cp.toNat = y.cp.toNat + (if pendT t then n.toNat else 0)) ∧ ((firY t n y).cq.toNat = y.cq.toNat + (if pendT t then 0 else n.toNat)) := by
      have o1 := hfit.1
      have o2 := hfit.2.1
      unfold firO at o1
      unfold firI at o2
      unfold firX firY
      by_cases hpt : pendT t = true
      · simp only [if_pos hpt] at o1 o2 ⊢
        exact ⟨addN_two (fit_lt o1), rfl, addN_two (fit_lt o2), rfl⟩
      · simp only [if_neg hpt] at o1 o2 ⊢
        exact ⟨rfl, addN_two (fit_lt o1), rfl, addN_two (fit_lt o2)⟩
    obtain ⟨o1, o2, o3, o4⟩ := core
    refine h.acc.upd (by rw [ids_map]; exact hW.hn) hdc hB hB' (by rw [bx]; exact hX) (by rw [by']; exact hY) (by rw [bx, by']; exact hl) u1 u2 w1 w2 ?_ ?_ ?_ ?_ ?_ ?_
    · show (firX t n x).dp.toNat = _
      rw [bx, q1, c4, c1, hxi, o1]
      have : x.dp.toNat = pendD e.trs H t.debit := by rw [← hxi]; exact pp1
      rw [this]
      by_cases hpt : pendT t = true <;> simp [hpt]
    · show (firY t n y).cp.toNat = _
      rw [by', q2, c4, c2, hyi, o3]
      have : y.cp.toNat = pendC e.trs H t.credit := by rw [← hyi]; exact pp2
      rw [this]
      by_cases hpt : pendT t = true <;> simp [hpt]
    · intro z hz
      rw [bx, hxi] at hz
      rw [q1, c1, if_neg (fun hh => hz hh.2.symm), Nat.add_zero]
    · intro z hz
      rw [by', hyi] at hz
      rw [q2, c2, if_neg (fun hh => hz hh.2.symm), Nat.add_zero]
    · show (firX t n x).dp.toNat + _ = (firY t n y).cp.toNat + _
      rw [bx, by', o1, o3]
      show _ + y.cp.toNat = _ + x.dp.toNat
      omega
    · show (firX t n x).dq.toNat + _ = (firY t n y).cq.toNat + _
      rw [bx, by', o2, o4]
      show _ + y.cq.toNat = _ + x.dq.toNat
      omega
  · rw [a2]
    intro u hu hs
    rcases List.mem_append.1 hu with hu | hu
    · exact (h.led u hu hs).ext a4 hleds rfl rfl
    · rw [List.mem_singleton] at hu
      subst hu
      exact ⟨d, c, by rw [a4, c1]; exact hd, by rw [a4, c2]; exact hc, hdc, by rw [hleds, hleds, getD_at hB, getD_at hB', bx, by']; exact hl⟩
  · rw [a2]
    intro u hu hs
    rcases List.mem_append.1 hu with hu | hu
    · exact h.st u hu hs
    · rw [List.mem_singleton] at hu
      subst hu
      left
      rw [c3] at hs
      rw [c4]
      exact if_pos (decide_eq_true hs)
end Go.Proofs.YtpcechnalfaajaaDoor

/- Each step keeps the books' sums: what was pending. -/
namespace Go.Proofs.YtpcechnalfaajaaDoor
open Go Go.Proofs

/-- What was pending is let go, and perhaps posted. -/
theorem EngS.rel {m : Nat} {e E : Eng} {H : List Num} (h : EngS e H) (hW : EngW m e) {k d c : Nat} (hk : k < e.trs.length) (hs : e.trs[k].state = 1) (hd : posN e.trs[k].debit e.ids = some d) (hc : posN e.trs[k].credit e.ids = some c) (q : Transfer) (hq : coreT q = coreT e.trs[k]) (hq4 : q.state = 2 ∨ q.state = 3 ∨ q.state = 4)
    (fx fy : Int) (hx2 : band fx 2 = band (e.acc.getD d zA).flags 2) (hx4 : band fx 4 = band (e.acc.getD d zA).flags 4) (hy2 : band fy 2 = band (e.acc.getD c zA).flags 2) (hy4 : band fy 4 = band (e.acc.getD c zA).flags 4) (n : Num) (hn2 : n.toNat ≤ (H.getD k 0).toNat)
    (e1 : E.acc = (e.acc.set d (relX fx (H.getD k 0) n (e.acc.getD d zA))).set c (relY fy (H.getD k 0) n (e.acc.getD c zA))) (e2 : E.trs = e.trs.set k q) (e3 : E.rws = e.rws) : EngS E H ∧ E.ids = e.ids := by
  have hd' : d < e.acc.length := by obtain ⟨h1, _⟩ := posN_some hd; simpa [Eng.ids] using h1
  have hc' : c < e.acc.length := by obtain ⟨h1, _⟩ := posN_some hc; simpa [Eng.ids] using h1
  have hdi : (e.acc.getD d zA).id = e.trs[k].debit := by obtain ⟨h1, h2⟩ := posN_some hd; rw [getD_at hd']; simpa [Eng.ids] using h2
  have hci : (e.acc.getD c zA).id = e.trs[k].credit := by obtain ⟨h1, h2⟩ := posN_some hc; rw [getD_at hc']; simpa [Eng.ids] using h2
  have hB : d < (e.acc.map nA).length := by simpa using hd'
  have hB' : c < (e.acc.map nA).length := by simpa using hc'
  have bx : (e.acc.map nA)[d] = nA (e.acc.getD d zA) := nA_at hd'
  have by' : (e.acc.map nA)[c] = nA (e.acc.getD c zA) := nA_at hc'
  obtain ⟨d', c', l1, l2, l3, l4⟩ := h.led _ (List.getElem_mem hk) hs
  rw [hd] at l1
  rw [hc] at l2
  cases l1
  cases l2
  rw [getD_at hB, getD_at hB'] at l4
  have hrel := h.acc.rel (by rw [ids_map]; exact hW.hn) hk h.a.len hs l3 hB hB' (by rw [bx]; exact hdi) (by rw [by']; exact hci) l4 q (by rcases hq4 with h | h | h <;> rw [h] <;> decide) fx fy (by rw [bx]; exact hx2) (by rw [bx]; exact hx4) (by rw [by']; exact hy2) (by rw [by']; exact hy4) n hn2
  have hacc : E.acc.map nA = ((e.acc.map nA).set d (relX fx (H.getD k 0) n (e.acc.map nA)[d])).set c (relY fy (H.getD k 0) n (e.acc.map nA)[c]) := by
    rw [e1, nA_set2, bx, by']; rfl
  have hids : E.ids = e.ids := by
    show E.acc.map (·.id) = e.acc.map (·.id)
    rw [e1]
    exact set2_ids rfl rfl
  have hcore : E.trs.map coreT = e.trs.map coreT := by
    rw [e2, List.map_set, hq]
    apply List.ext_getElem?
    intro j
    rw [List.getElem?_set]
    split
    · rename_i hj; subst hj; simp [hk]
    · rfl
  have hleds : ∀ j, ((E.acc.map nA).getD j zA).ledger = ((e.acc.map nA).getD j zA).ledger := fun j => by
    rw [hacc]
    exact set2_led (X := relX fx (H.getD k 0) n (e.acc.map nA)[d]) (Y := relY fy (H.getD k 0) n (e.acc.map nA)[c]) hB hB' rfl rfl j
  have hmem : ∀ u ∈ E.trs, u = q ∨ u ∈ e.trs := fun u hu => by
    rw [e2] at hu
    exact (List.mem_or_eq_of_mem_set hu).symm
  refine ⟨⟨h.a.ext hcore hids (fun j => ⟨[], by rw [e3]; simp, fun r hr => by cases hr⟩), by rw [hacc, e2]; exact hrel.1, ?_, ?_⟩, hids⟩
  · intro u hu hus
    rcases hmem u hu with rfl | hu
    · rcases hq4 with h | h | h <;> rw [h] at hus <;> cases hus
    · exact (h.led u hu hus).ext hids hleds rfl rfl
  · intro u hu hus
    rcases hmem u hu with rfl | hu
    · exact .inr hq4
    · exact h.st u hu hus
theorem EngS.expire1 {m : Nat} {e : Eng} {H : List Num} (h : EngS e H) (hW : EngW m e) (k : Nat) : EngS (e.expire1 k) H := by
  unfold Eng.expire1
  simp only
  split
  · exact h
  rename_i hst
  simp only [not_or, Classical.not_not] at hst
  have hs := hst.1
  have hk : k < e.trs.length := by
    apply Classical.byContradiction
    intro hk
    rw [List.getD, List.getElem?_eq_none (by omega)] at hs
    exact absurd hs (by decide)
  rw [getD_at hk] at hs ⊢
  obtain ⟨d, c, hd, hc, hdc, _⟩ := h.led _ (List.getElem_mem hk) hs
  have hd' : d < e.acc.length := by obtain ⟨h1, _⟩ := posN_some hd; simpa [Eng.ids] using h1
  have hc' : c < e.acc.length := by obtain ⟨h1, _⟩ := posN_some hc; simpa [Eng.ids] using h1
  rw [h.a.amount hW.hnt hk, hd, hc]
  simp only [Option.getD_some]
  rw [release_set e e.trs[k] (H.getD k 0) true hdc hd' hc']
  have hb1 := relF_band true e.trs[k] 64 (e.acc.getD d zA).flags
  have hb2 := relF_band true e.trs[k] 128 (e.acc.getD c zA).flags
  generalize relF true e.trs[k] 64 (e.acc.getD d zA).flags = fx at *
  generalize relF true e.trs[k] 128 (e.acc.getD c zA).flags = fy at *
  generalize he1 : ({ ({ e with acc := (e.acc.set d { e.acc.getD d zA with dp := subN (e.acc.getD d zA).dp (H.getD k 0), flags := fx }).set c { e.acc.getD c zA with cp := subN (e.acc.getD c zA).cp (H.getD k 0), flags := fy } } : Eng).setState k 4 with
    time := (({ e with acc := (e.acc.set d { e.acc.getD d zA with dp := subN (e.acc.getD d zA).dp (H.getD k 0), flags := fx }).set c { e.acc.getD c zA with cp := subN (e.acc.getD c zA).cp (H.getD k 0), flags := fy } } : Eng).setState k 4).time + 1 } : Eng) = E
  have hE := h.rel (E := E) hW hk hs hd hc { e.trs[k] with state := 4 } rfl (.inr (.inr rfl)) fx fy hb1.1 hb1.2 hb2.1 hb2.2 0 (Nat.zero_le _)
    (by rw [← he1]; unfold relX relY; rw [addN_0, addN_0]; rfl) (by rw [← he1]; show e.trs.set k { e.trs.getD k zT with state := 4 } = _; rw [getD_at hk]) (by rw [← he1]; rfl)
  have ht : e.trs[k].id ∈ E.tids := by
    have : E.tids = e.tids := by rw [← he1]; exact Eng.setState_tids _ _ _
    rw [this]
    exact List.mem_map_of_mem (List.getElem_mem hk)
  show EngS ((E.row1 e.trs[k].id (-1) (H.getD k 0) d).row1 e.trs[k].id (-1) (H.getD k 0) c) H
  exact (hE.1.row1 _ ht ..).row1 _ ht ..
theorem EngS.tick {m : Nat} {e : Eng} {H : List Num} (h : EngS e H) (hW : EngW m e) (now : Int) (hn : e.now ≤ now ∧ now ≤ 9223372036854775807) : EngS (e.tick now) H := by
  have : ∀ k, EngS ((List.range k).foldl Eng.expire1 { e with now := now }) H := by
    intro k
    induction k with
    | zero => exact h.ext (e' := { e with now := now }) rfl rfl rfl (fun j => ⟨[], by simp, fun r hr => by cases hr⟩)
    | succ k ih =>
      rw [List.range_succ, List.foldl_append]
      exact ih.expire1 (tick_w hW now hn k).1 k
  exact this _
theorem EngS.second {m : Nat} {e : Eng} {H : List Num} (h : EngS e H) (hW : EngW m e) (t : Transfer) (hid : t.id ∉ e.tids) (hp : t.pid ≠ 0) (hf2 : band t.flags 2 = 0) (hf : 0 ≤ bclr t.flags 1) : ∃ H', EngS (e.second t).1 H' := by
  cases hk : posN t.pid e.tids with
  | none => rw [second_none hk]; exact ⟨H, h⟩
  | some k =>
    have hkl : k < e.trs.length := by obtain ⟨h1, _⟩ := posN_some hk; simpa [Eng.tids] using h1
    rw [second_some hk (getD_at hkl) (h.a.amount hW.hnt hkl)]
    split
    · exact ⟨H, h⟩
    rename_i hz
    have hz : secE t e.trs[k] (H.getD k 0) = 0 := Classical.not_not.1 hz
    generalize hhe : H.getD k 0 = held at *
    have hx : band e.trs[k].flags 2 ≠ 0 ∧ ¬ (e.trs[k].state = 2 ∨ e.trs[k].state = 3) ∧ e.trs[k].state ≠ 4 ∧ (secN t held).toNat ≤ held.toNat := by
      unfold secE at hz
      split at hz
      · cases hz
      rename_i h1
      split at hz
      · cases hz
      rename_i h2
      split at hz
      · cases hz
      rename_i h3
      split at hz
      · cases hz
      split at hz
      · cases hz
      rename_i h4
      exact ⟨h1, h2, h3, by simp only [not_or] at h4; omega⟩
    obtain ⟨x1, x2, x3, x4⟩ := hx
    simp only [not_or] at x2
    have hs : e.trs[k].state = 1 := by
      rcases h.st _ (List.getElem_mem hkl) x1 with h | h | h | h
      · exact h
      · exact absurd h x2.1
      · exact absurd h x2.2
      · exact absurd h x3
    obtain ⟨d, c, hd, hc, hdc, _⟩ := h.led _ (List.getElem_mem hkl) hs
    have hd' : d < e.acc.length := by obtain ⟨h1, _⟩ := posN_some hd; simpa [Eng.ids] using h1
    have hc' : c < e.acc.length := by obtain ⟨h1, _⟩ := posN_some hc; simpa [Eng.ids] using h1
    rw [hd, hc]
    simp only [Option.getD_some]
    generalize hn : secN t held = n at *
    unfold secF
    simp only
    rw [release_set e e.trs[k] held _ hdc hd' hc']
    generalize decide (band t.flags 8 ≠ 0) = nothing
    have hb1 := relF_band nothing e.trs[k] 64 (e.acc.getD d zA).flags
    have hb2 := relF_band nothing e.trs[k] 128 (e.acc.getD c zA).flags
    generalize relF nothing e.trs[k] 64 (e.acc.getD d zA).flags = fx at *
    generalize relF nothing e.trs[k] 128 (e.acc.getD c zA).flags = fy at *
    generalize hE0 : ({ e with acc := (e.acc.set d { e.acc.getD d zA with dp := subN (e.acc.getD d zA).dp held, flags := fx }).set c { e.acc.getD c zA with cp := subN (e.acc.getD c zA).cp held, flags := fy } } : Eng) = E0
    have z1 : E0.trs = e.trs := by rw [← hE0]
    have hE : ∃ E, (if band t.flags 4 ≠ 0 then ((E0.setState k 3).setState k 2).post n d c else E0.setState k 3) = E ∧ EngS E H ∧ E.ids = e.ids ∧ E.tids = e.tids ∧ E.rws = e.rws ∧ E.trs.map coreT = e.trs.map coreT := by
      have q1 : ∀ s, (E0.setState k s).trs = e.trs.set k { e.trs[k] with state := s } := fun s => by
        show E0.trs.set k { E0.trs.getD k zT with state := s } = _
        rw [z1, getD_at hkl]
      have hcore : ∀ s, (e.trs.set k { e.trs[k] with state := s }).map coreT = e.trs.map coreT := fun s => by
        have := setState_core E0 k s
        rw [q1, z1] at this
        exact this
      split
      · have q2 : ((E0.setState k 3).setState k 2).trs = e.trs.set k { e.trs[k] with state := 2 } := by
          show (E0.setState k 3).trs.set k { (E0.setState k 3).trs.getD k zT with state := 2 } = _
          rw [q1, getD_at (by simpa using hkl), List.getElem_set_self, List.set_set]
        have q3 : ((E0.setState k 3).setState k 2).acc = E0.acc := rfl
        rw [post_set _ n hdc]
        have := h.rel (E := { (E0.setState k 3).setState k 2 with acc := (((E0.setState k 3).setState k 2).acc.set d { ((E0.setState k 3).setState k 2).acc.getD d zA with dq := addN [(((E0.setState k 3).setState k 2).acc.getD d zA).dq, n] }).set c { ((E0.setState k 3).setState k 2).acc.getD c zA with cq := addN [(((E0.setState k 3).setState k 2).acc.getD c zA).cq, n] } })
          hW hkl hs hd hc { e.trs[k] with state := 2 } rfl (.inl rfl) fx fy hb1.1 hb1.2 hb2.1 hb2.2 n (by rw [hhe]; exact x4) (by
            show (E0.acc.set d { E0.acc.getD d zA with dq := _ }).set c { E0.acc.getD c zA with cq := _ } = _
            rw [← hE0, hhe]
            show ((((e.acc.set d _).set c _).set d { ((e.acc.set d _).set c _).getD d zA with dq := addN [(((e.acc.set d _).set c _).getD d zA).dq, n] }).set c { ((e.acc.set d _).set c _).getD c zA with cq := addN [(((e.acc.set d _).set c _).getD c zA).cq, n] }) = _
            rw [getD_set, if_neg (fun h => hdc h.1.symm), getD_set, if_pos ⟨rfl, hd'⟩, getD_set, if_pos ⟨rfl, by simpa using hc'⟩, set_back hdc, List.set_set]
            rfl) q2 (by show E0.rws = e.rws; rw [← hE0])
        exact ⟨_, rfl, this.1, this.2, by show ((E0.setState k 3).setState k 2).tids = _; rw [Eng.setState_tids, Eng.setState_tids]; unfold Eng.tids; rw [z1], by show E0.rws = e.rws; rw [← hE0], by show ((E0.setState k 3).setState k 2).trs.map coreT = _; rw [q2]; exact hcore 2⟩
      · have := h.rel (E := E0.setState k 3) hW hkl hs hd hc { e.trs[k] with state := 3 } rfl (.inr (.inl rfl)) fx fy hb1.1 hb1.2 hb2.1 hb2.2 0 (Nat.zero_le _) (by
            show E0.acc = _
            rw [← hE0, hhe]
            unfold relX relY
            rw [addN_0, addN_0]) (q1 3) (by show E0.rws = e.rws; rw [← hE0])
        exact ⟨_, rfl, this.1, this.2, by rw [Eng.setState_tids]; unfold Eng.tids; rw [z1], by show E0.rws = e.rws; rw [← hE0], by rw [q1]; exact hcore 3⟩
    obtain ⟨E, hEq, hS, i1, i2, i3, i4⟩ := hE
    rw [hEq]
    have hl1 : E.trs.length = e.trs.length := by have := congrArg List.length i4; simpa using this
    have htr : E.transfer t.pid = some (E.trs.getD k zT) := by unfold Eng.transfer; rw [i2, hk]; rfl
    have hdeb : (E.trs.getD k zT).debit = e.trs[k].debit := by
      have := core_at i4 k
      rw [getD_at hkl] at this
      exact (core_eq this).2.1
    have hpidE : ∀ u ∈ E.trs, u.pid ≠ 0 → posN u.pid E.tids ≠ none := by
      intro u hu hup
      obtain ⟨j, hj, rfl⟩ := List.getElem_of_mem hu
      have hj' : j < e.trs.length := by omega
      have := core_at i4 j
      rw [getD_at hj, getD_at hj'] at this
      have h5 := (core_eq this).2.2.2.2.1
      rw [i2, h5]
      rw [h5] at hup
      exact hW.hpid _ (List.getElem_mem hj') hup
    obtain ⟨a1, a2, a3, a4⟩ := hS.a.add hpidE { t with state := 0 } n d c (by rw [i2]; exact hid) (by rw [i3, hW.lr]; exact hd')
      (by show posN (if t.pid = 0 then _ else ((E.transfer t.pid).getD zT).debit) _ = _; rw [if_neg hp, htr, Option.getD_some, hdeb, i1]; exact hd) (fun _ => by show posN t.pid _ ≠ none; rw [i2, hk]; simp) hf
    refine ⟨H ++ [n], a1, ?_, ?_, ?_⟩
    · rw [a3, a2]
      have o1 : ∀ z, pendD (E.trs ++ [{ { t with state := 0 } with time := E.time + 1, tick := E.now }]) (H ++ [n]) z = pendD E.trs H z := fun z => by
        rw [pendD_snoc hS.a.len, if_neg (fun hh => by cases hh.1), Nat.add_zero]
      have o2 : ∀ z, pendC (E.trs ++ [{ { t with state := 0 } with time := E.time + 1, tick := E.now }]) (H ++ [n]) z = pendC E.trs H z := fun z => by
        rw [pendC_snoc hS.a.len, if_neg (fun hh => by cases hh.1), Nat.add_zero]
      exact ⟨hS.acc.fit, hS.acc.win, fun i hi => by rw [o1]; exact hS.acc.pd i hi, fun i hi => by rw [o2]; exact hS.acc.pc i hi, hS.acc.lp, hS.acc.lq⟩
    · rw [a2]
      intro u hu hus
      rcases List.mem_append.1 hu with hu | hu
      · exact (hS.led u hu hus).ext a4 (fun j => by rw [a3]) rfl rfl
      · rw [List.mem_singleton] at hu
        subst hu
        cases hus
    · rw [a2]
      intro u hu hus
      rcases List.mem_append.1 hu with hu | hu
      · exact hS.st u hu hus
      · rw [List.mem_singleton] at hu
        subst hu
        exact absurd hf2 hus
end Go.Proofs.YtpcechnalfaajaaDoor

/- EngineSums' plain law. -/
namespace Go.Proofs.YtpcechnalfaajaaDoor
open Go Go.Proofs

theorem EngS.makeTransfer {m : Nat} {e : Eng} {H : List Num} (h : EngS e H) (hW : EngW m e) (t : Transfer) : ∃ H', EngS (e.makeTransfer t).1 H' := by
  rw [makeTransfer_eq]
  split
  · exact ⟨H, h⟩
  rename_i hr
  have hr : ruleT t = 0 := Classical.not_not.1 hr
  have hfl := ruleT_flags hr
  split
  · exact ⟨H, h⟩
  rename_i hp
  have hid : t.id ∉ e.tids := by
    unfold Eng.transfer at hp
    rw [Option.map_eq_none_iff, posN_none] at hp
    exact hp
  split
  · exact ⟨H, h⟩
  split
  · rename_i hpid
    exact h.second hW t hid hpid (ruleT_pid hr hpid) (bclr1 hfl.1 hfl.2).1
  rename_i hpid
  have hpid : t.pid = 0 := Classical.not_not.1 hpid
  split
  · exact ⟨H, h⟩
  rename_i d hd
  split
  · exact ⟨H, h⟩
  rename_i c hc
  unfold mkT
  split
  · exact ⟨H, h⟩
  rename_i hcd
  split
  · exact ⟨H, h⟩
  rename_i hl
  simp only [not_or, Classical.not_not] at hl
  split
  · exact ⟨H, h⟩
  split
  · exact ⟨H, h⟩
  exact h.first hW t hid hpid hd hc (Ne.symm hcd) (hl.1.trans hl.2.symm) (bclr1 hfl.1 hfl.2).1
theorem sums_batchA {m : Nat} {e : Eng} (h : EngW m e ∧ ∃ H, EngS e H) (l : List Account) : ∃ H, EngS (e.batchA l).1 H :=
  (batch_I (ev := Eng.evA l) (I := fun m e => EngW m e ∧ ∃ H, EngS e H) (fun _ _ _ _ h => ⟨makeAccount_w h.1 _, h.2.imp fun _ hh => hh.makeAccount h.1 _⟩) (fun _ _ _ h hm => ⟨h.1.mono hm, h.2⟩) l.length 0 m e (Nat.zero_le _) h).2
theorem sums_batchT {m : Nat} {e : Eng} (h : EngW m e ∧ ∃ H, EngS e H) (l : List Transfer) : ∃ H, EngS (e.batchT l).1 H :=
  (batch_I (ev := Eng.evT l) (I := fun m e => EngW m e ∧ ∃ H, EngS e H) (fun _ _ _ _ h => ⟨(makeTransfer_w h.1 _).1, by obtain ⟨_, hh⟩ := h.2; exact hh.makeTransfer h.1 _⟩) (fun _ _ _ h hm => ⟨h.1.mono hm, h.2⟩) l.length 0 m e (Nat.zero_le _) h).2
theorem sums_apply {m : Nat} {e : Eng} (hW : EngW m e) (h : ∃ H, EngS e H) (q : Req) (hf : q.from_ ≤ 9223372036854775807) : ∃ H, EngS (e.apply q).1.1 H := by
  unfold Eng.apply
  split
  · exact sums_batchA ⟨hW, h⟩ _
  split
  · exact sums_batchT ⟨hW, h⟩ _
  split
  · rename_i h3
    obtain ⟨H, h⟩ := h
    exact ⟨H, h.tick hW q.from_ ⟨by omega, hf⟩⟩
  · exact h
theorem sums_empty : EngS Eng.empty [] where
  a := ⟨rfl, fun _ h => absurd h (Nat.not_lt_zero _), fun j r hr => absurd hr (by simp [Eng.empty])⟩
  acc := ⟨fun _ h => absurd h (Nat.not_lt_zero _), fun _ h => absurd h (Nat.not_lt_zero _), fun _ h => absurd h (Nat.not_lt_zero _), fun _ h => absurd h (Nat.not_lt_zero _), fun _ => rfl, fun _ => rfl⟩
  led := fun _ h => absurd h List.not_mem_nil
  st := fun _ h => absurd h List.not_mem_nil
theorem sums_run : ∀ (L : List Req) {m : Nat} {e : Eng}, EngW m e → (∃ H, EngS e H) → (∀ q ∈ L, q.from_ ≤ 9223372036854775807) → ∃ H, EngS (runL e L) H := by
  intro L
  induction L with
  | nil => intro m e _ h _; exact h
  | cons q L ih =>
    intro m e hW h hq
    exact ih (applyT_w hW q (hq q (by simp))) (sums_apply hW h (tameR q) (hq q (by simp))) (fun x hx => hq x (by simp [hx]))
theorem putL_perm {key : Num} {v : Int} : ∀ {m : List KV}, (∀ p ∈ m, p.1 ≠ key) → (putL key v m).Perm ((key, v) :: m) := by
  intro m
  induction m with
  | nil => intro _; exact .refl _
  | cons p t ih =>
    intro h
    obtain ⟨k, w⟩ := p
    have h0 : k ≠ key := h (k, w) (by simp)
    simp only [putL]
    rw [if_neg h0]
    split
    · exact .refl _
    · exact (List.Perm.cons _ (ih fun p hp => h p (by simp [hp]))).trans (.swap ..)
theorem idxOf_mem : ∀ (n : Nat) (l : List Num), l.length = n → ∀ p ∈ idxOf l, p.1 ∈ l ∧ p.2.toNat < l.length := by
  intro n
  induction n with
  | zero =>
    intro l hl p hp
    have : l = [] := List.eq_nil_of_length_eq_zero hl
    subst this
    cases hp
  | succ n ih =>
    intro l0 hl p hp
    have hne : l0 ≠ [] := fun h => by subst h; simp at hl
    obtain ⟨l, k, rfl⟩ : ∃ l k, l0 = l ++ [k] := ⟨l0.dropLast, l0.getLast hne, (List.dropLast_concat_getLast hne).symm⟩
    rw [idxOf_snoc] at hp
    have hm : p = (k, (l.length : Int)) ∨ p ∈ idxOf l := by
      revert hp
      generalize (l.length : Int) = v
      generalize idxOf l = m
      induction m with
      | nil => intro hp; simp only [putL, List.mem_singleton] at hp; exact .inl hp
      | cons x t ih2 =>
        intro hp
        obtain ⟨k', v'⟩ := x
        simp only [putL] at hp
        split at hp
        · rcases List.mem_cons.1 hp with h | h
          · exact .inl h
          · exact .inr (by simp [h])
        split at hp
        · rcases List.mem_cons.1 hp with h | h
          · exact .inl h
          · exact .inr h
        · rcases List.mem_cons.1 hp with h | h
          · exact .inr (by simp [h])
          · rcases ih2 h with h | h
            · exact .inl h
            · exact .inr (by simp [h])
    rcases hm with rfl | h
    · exact ⟨by simp, by simp⟩
    · obtain ⟨h1, h2⟩ := ih l (by simpa using hl) p h
      exact ⟨List.mem_append_left _ h1, by simp; omega⟩
theorem acc_perm : ∀ (n : Nat) (L rest : List Account), L.length = n → (L.map (·.id)).Nodup → ((idxOf (L.map (·.id))).map fun kv => (L ++ rest).getD kv.2.toNat zA).Perm L := by
  intro n
  induction n with
  | zero =>
    intro L rest hl _
    have : L = [] := List.eq_nil_of_length_eq_zero hl
    subst this
    exact .refl _
  | succ n ih =>
    intro L0 rest hl hn
    have hne : L0 ≠ [] := fun h => by subst h; simp at hl
    obtain ⟨L, a, rfl⟩ : ∃ l k, L0 = l ++ [k] := ⟨L0.dropLast, L0.getLast hne, (List.dropLast_concat_getLast hne).symm⟩
    have hm : (L ++ [a]).map (·.id) = L.map (·.id) ++ [a.id] := by simp
    rw [hm] at hn ⊢
    have hnl := (List.nodup_append.1 hn).1
    have hk : a.id ∉ L.map (·.id) := fun h => (List.nodup_append.1 hn).2.2 _ h _ (by simp) rfl
    rw [idxOf_snoc]
    have hp := putL_perm (key := a.id) (v := ((L.map (·.id)).length : Int)) (m := idxOf (L.map (·.id))) (fun p hp he => hk (he ▸ (idxOf_mem _ _ rfl p hp).1))
    refine (hp.map _).trans ?_
    rw [List.map_cons]
    have h1 : ((L ++ [a]) ++ rest).getD (((L.map (·.id)).length : Int)).toNat zA = a := by simp [List.getD]
    simp only [h1]
    rw [List.append_assoc]
    exact (List.Perm.cons a (ih L ([a] ++ rest) (by simpa using hl) hnl)).trans (List.perm_append_singleton a L).symm
/-- What is asked of the accounts. -/
structure SumsOk (l : List Account) : Prop where
  win : ∀ a ∈ l, withinA a = true
  lp : ∀ g, sumL (lDp g) l = sumL (lCp g) l
  lq : ∀ g, sumL (lDq g) l = sumL (lCq g) l
theorem sums_law {m : Nat} {e : Eng} (hW : EngW m e) (h : ∃ H, EngS e H) : SumsOk e.accounts ∧ e.accounts.length ≤ 32 := by
  obtain ⟨H, h⟩ := h
  have hp : e.accounts.Perm e.acc := by
    have := acc_perm _ e.acc [] rfl hW.hn
    rw [List.append_nil] at this
    exact this
  have k1 : ∀ (f : Account → Nat), (∀ a, f (nA a) = f a) → sumL f (e.acc.map nA) = sumL f e.acc := fun f hf => by
    unfold sumL
    rw [List.map_map]
    exact congrArg List.sum (List.map_congr_left fun a _ => hf a)
  refine ⟨⟨?_, ?_, ?_⟩, by rw [hp.length_eq]; exact hW.la⟩
  · intro a ha
    obtain ⟨i, hi, rfl⟩ := List.getElem_of_mem (hp.mem_iff.1 ha)
    have := h.acc.win i (by simpa using hi)
    rw [List.getElem_map] at this
    exact this
  · intro g
    rw [sumL_perm _ hp, sumL_perm _ hp, ← k1 (lDp g) (fun _ => rfl), ← k1 (lCp g) (fun _ => rfl)]
    exact h.acc.lp g
  · intro g
    rw [sumL_perm _ hp, sumL_perm _ hp, ← k1 (lDq g) (fun _ => rfl), ← k1 (lCq g) (fun _ => rfl)]
    exact h.acc.lq g
end Go.Proofs.YtpcechnalfaajaaDoor

/- Maps from ints to blocks: what is owned, and steps: makeMap, lookup, mapUpdate, range, next, entry. -/
namespace Go.Proofs.YtpcechnalfaajaaDoor
open Go Go.Proofs

theorem Sat.pob_at {κ : Kap} {w : World} {b : Nat} {cs : List HProp} {o : Obj} {F : HProp → List HProp} [ho : Ob pob b cs o F] (h : Sat κ w cs) : w.heap[b]? = some o := by
  obtain ⟨Fr, h1, _⟩ := h.get (o := ho)
  exact h1.pob_heap

/-- Keys and blocks, as a map's entries. -/
def ent (i : Nat) (x : Int × Nat) : MapEntry := { key := .int .i64 x.1, val := .pointer (some ⟨x.2, 0, none⟩), born := i }
def mEs : Nat → List (Int × Nat) → List MapEntry
  | _, [] => []
  | i, x :: t => ent i x :: mEs (i + 1) t
def mapO (M : List (Int × Nat)) : Obj := .map (mEs 0 M).toArray M.length
theorem mEs_get : ∀ (M : List (Int × Nat)) (i j : Nat), (mEs i M)[j]? = (M[j]?).map (ent (i + j)) := by
  intro M
  induction M with
  | nil => intro i j; simp [mEs]
  | cons x t ih =>
    intro i j
    cases j with
    | zero => simp [mEs]
    | succ j => simp only [mEs, List.getElem?_cons_succ, ih]; rw [show i + 1 + j = i + (j + 1) by omega]
theorem mEs_app : ∀ (M : List (Int × Nat)) (i : Nat) (x : Int × Nat), mEs i (M ++ [x]) = mEs i M ++ [ent (i + M.length) x] := by
  intro M
  induction M with
  | nil => intro i x; simp [mEs]
  | cons y t ih => intro i x; simp only [List.cons_append, mEs, ih, List.length_cons]; rw [show i + 1 + t.length = i + (t.length + 1) by omega]
theorem mEs_mem {M : List (Int × Nat)} {i : Nat} {x : MapEntry} (h : x ∈ mEs i M) : ∃ j y, M[j]? = some y ∧ x = ent (i + j) y := by
  obtain ⟨j, hj⟩ := List.getElem?_of_mem h
  rw [mEs_get] at hj
  cases hy : M[j]? with
  | none => rw [hy] at hj; cases hj
  | some y => rw [hy] at hj; cases hj; exact ⟨j, y, hy, rfl⟩
theorem mEs_key {M : List (Int × Nat)} {i : Nat} : ∀ x ∈ mEs i M, MapKept.IsKey (.int .i64) x.key := by
  intro x hx
  obtain ⟨j, y, _, rfl⟩ := mEs_mem hx
  exact rfl
theorem mEs_born : ∀ (M : List (Int × Nat)) (i : Nat), ((mEs i M).map (·.born)).Nodup ∧ ∀ b ∈ (mEs i M).map (·.born), i ≤ b ∧ b < i + M.length := by
  intro M
  induction M with
  | nil => intro i; simp [mEs]
  | cons y t ih =>
    intro i
    obtain ⟨h1, h2⟩ := ih (i + 1)
    simp only [mEs, List.map_cons, List.nodup_cons, List.length_cons]
    refine ⟨⟨fun hm => ?_, h1⟩, fun b hb => ?_⟩
    · have := h2 _ hm
      simp only [ent] at this
      omega
    · rcases List.mem_cons.1 hb with hb | hb
      · have : b = i := hb
        omega
      · have := h2 b hb; omega
/-- A map from ints to pointers. -/
class Mp (P : Program) (T : TypeId) : Prop where
  run : ∃ K E, P.underlying T = some (.map K E) ∧ P.underlying K = some (.int .i64) ∧ ∀ w, (zeroValue E).run P w = .ok (.pointer none) w
section
variable {P : Program} {ops : Array Oper} {Q : Exit → Act → World → Prop} {n : Nd} {κ : Kap} {rest : List Oper} {fr : List (Nat × Value)} {cs : List HProp}
variable {d : Nat} {dst : Option Nat} {op : Op} {ty : TypeId} {pos : String} {af : Array Edge} {g : Option (Nat × Bool)}
theorem OpN.mkmap {T : TypeId} : OpN P n κ ⟨dst, .makeMap T none, ty, pos, af, g⟩ fr cs (fun v cs' => ∃ b, v = .map (some b) ∧ cs' = pob b (mapO []) :: cs) := by
  intro a w next Q ha hs hn
  simp only [Oper.wpY, execOp, Instr.makeMap, Option.map_none, Sem.run_bind, Result.andThen_ok, newObj, Sem.run, Sem.run_pure]
  exact hn _ _ _ ⟨_, rfl, rfl⟩ (hs.pob_new (mapO []))
theorem OpN.lookup {T : TypeId} {m : Nat} {M : List (Int × Nat)} {F : HProp → List HProp} {x i : Operand} {k : Int} (hx : ev fr x = some (.map (some m))) (hi : ev fr i = some (.int .i64 k)) [hM : Mp P T] [ho : Ob pob m cs (mapO M) F] :
    OpN P n κ ⟨dst, .lookup T x i false, ty, pos, af, g⟩ fr cs (fun v cs' => cs' = cs ∧ ((v = .pointer none ∧ k ∉ M.map (·.1)) ∨ ∃ b, (k, b) ∈ M ∧ v = .pointer (some ⟨b, 0, none⟩))) := by
  intro a w next Q ha hs hn
  obtain ⟨K, E, h1, h2, h3⟩ := hM.run
  have hb : w.heap[m]? = some (.map (mEs 0 M).toArray M.length) := hs.pob_at (o := mapO M)
  simp only [Oper.wpY, execOp, ha.eval hx, ha.eval hi, Instr.lookup, Instr.findKey, Sem.run_bind, run_underlying h1, run_underlying h2, Result.andThen_ok, MapKept.run_getObj_map hb, Sem.run_pure, MapKept.run_checkKey h2 (show MapKept.IsKey (.int .i64) (.int .i64 k) from rfl)]
  rcases MapKept.findNow_spec (show MapKept.IsKey (.int .i64) (.int .i64 k) from rfl) (mEs 0 M) 0 mEs_key with ⟨h4, h5⟩ | ⟨j, e, h4, h5, h6⟩
  · simp only [h4, Sem.run_pure, Result.andThen_ok, Sem.run_bind, h3]
    refine hn _ _ _ ⟨rfl, .inl ⟨rfl, fun hm => ?_⟩⟩ hs
    obtain ⟨y, hy, rfl⟩ := List.mem_map.1 hm
    obtain ⟨j, hj⟩ := List.getElem?_of_mem hy
    have hg := mEs_get M 0 j
    rw [hj] at hg
    exact h5 _ (List.mem_of_getElem? hg) rfl
  · simp only [h4, Sem.run_pure, Result.andThen_ok, Sem.run_bind]
    rw [mEs_get] at h5
    cases hy : M[j]? with
    | none => rw [hy] at h5; cases h5
    | some y =>
      rw [hy] at h5
      cases h5
      refine hn _ _ _ ⟨rfl, .inr ⟨y.2, ?_, rfl⟩⟩ hs
      have hk : y.1 = k := by simpa [ent] using h6
      rw [← hk]
      exact List.mem_of_getElem? hy
theorem OpN.mapup {T : TypeId} {m b : Nat} {M : List (Int × Nat)} {F : HProp → List HProp} {x i y : Operand} {k : Int} (hx : ev fr x = some (.map (some m))) (hi : ev fr i = some (.int .i64 k)) (hy : ev fr y = some (.pointer (some ⟨b, 0, none⟩))) (hk : k ∉ M.map (·.1)) [hM : Mp P T] [ho : Ob pob m cs (mapO M) F] :
    OpN P n κ ⟨dst, .mapUpdate T x i y, ty, pos, af, g⟩ fr cs (fun _ cs' => cs' = F (pob m (mapO (M ++ [(k, b)])))) := by
  intro a w next Q ha hs hn
  obtain ⟨K, E, h1, h2, h3⟩ := hM.run
  have hb : w.heap[m]? = some (.map (mEs 0 M).toArray M.length) := hs.pob_at (o := mapO M)
  simp only [Oper.wpY, execOp, ha.eval hx, ha.eval hi, ha.eval hy, Instr.mapUpdate, Instr.findKey, Sem.run_bind, run_underlying h1, run_underlying h2, Result.andThen_ok, MapKept.run_getObj_map hb, MapKept.run_checkKey h2 (show MapKept.IsKey (.int .i64) (.int .i64 k) from rfl)]
  rcases MapKept.findNow_spec (show MapKept.IsKey (.int .i64) (.int .i64 k) from rfl) (mEs 0 M) 0 mEs_key with ⟨h4, h5⟩ | ⟨j, e, h4, h5, h6⟩
  · simp only [h4, Sem.run_pure, Result.andThen_ok, Sem.run_bind, MapKept.run_setObj_map _ hb]
    obtain ⟨Fr, g1, g2⟩ := hs.get (o := ho)
    have := g2 _ κ _ (g1.pob_put (o' := mapO (M ++ [(k, b)])))
    have he : mapO (M ++ [(k, b)]) = .map ((mEs 0 M).toArray.push { key := .int .i64 k, val := .pointer (some ⟨b, 0, none⟩), born := M.length }) (M.length + 1) := by
      unfold mapO
      rw [mEs_app]
      simp [ent]
    rw [he] at this
    exact hn _ _ _ rfl (by rw [he]; exact this)
  · exfalso
    rw [mEs_get] at h5
    cases hy : M[j]? with
    | none => rw [hy] at h5; cases h5
    | some y =>
      rw [hy] at h5
      cases h5
      have hk2 : y.1 = k := by simpa [ent] using h6
      exact hk (by rw [← hk2]; exact List.mem_map_of_mem (List.mem_of_getElem? hy))
def itO (m c : Nat) (seen : Array Nat) : Obj := .mapIter (some m) c seen c
theorem OpN.range {T : TypeId} {m : Nat} {M : List (Int × Nat)} {F : HProp → List HProp} {x : Operand} (hx : ev fr x = some (.map (some m))) [hM : Mp P T] [ho : Ob pob m cs (mapO M) F] :
    OpN P n κ ⟨dst, .range T x, ty, pos, af, g⟩ fr cs (fun v cs' => ∃ r, v = .pointer (some ⟨r, 0, none⟩) ∧ cs' = pob r (itO m M.length #[]) :: cs) := by
  intro a w next Q ha hs hn
  obtain ⟨K, E, h1, h2, h3⟩ := hM.run
  have hb : w.heap[m]? = some (.map (mEs 0 M).toArray M.length) := hs.pob_at (o := mapO M)
  simp only [Oper.wpY, execOp, ha.eval hx, Sem.run_bind, run_range_map w T K E m _ _ h1 hb, Result.andThen_ok, Sem.run_pure]
  exact hn _ _ _ ⟨_, rfl, rfl⟩ (hs.pob_new (itO m M.length #[]))
def leftM (M : List (Int × Nat)) (seen : Array Nat) : Nat := (leftOf (mEs 0 M).toArray seen).size
theorem OpN.next {m r : Nat} {M : List (Int × Nat)} {seen : Array Nat} {F G : HProp → List HProp} {x : Operand} (hx : ev fr x = some (.pointer (some ⟨r, 0, none⟩))) [ho : Ob pob m cs (mapO M) F] [hr : Ob pob r cs (itO m M.length seen) G] :
    OpN P n κ ⟨dst, .next x false, ty, pos, af, g⟩ fr cs (fun v cs' => (v = .tuple #[.bool false] ∧ cs' = cs) ∨
      ∃ j y, M[j]? = some y ∧ leftM M (seen.push j) < leftM M seen ∧ v = .tuple #[.bool true, .int .i64 y.1, .pointer (some ⟨y.2, 0, none⟩)] ∧ cs' = G (pob r (itO m M.length (seen.push j)))) := by
  intro a w next Q ha hs hn
  have hb : w.heap[m]? = some (.map (mEs 0 M).toArray M.length) := hs.pob_at (o := mapO M)
  have hi : w.heap[r]? = some (.mapIter (some m) M.length seen M.length) := hs.pob_at (o := itO m M.length seen)
  have hold : ∀ x ∈ ((mEs 0 M).toArray).toList, x.born < M.length := fun x hx => by
    have := (mEs_born M 0).2 x.born (List.mem_map_of_mem (by simpa using hx))
    omega
  simp only [Oper.wpY, execOp, ha.eval hx, Sem.run_bind]
  rcases run_next_at (P := P) w ty r m M.length M.length seen _ _ hi hb hold (Nat.le_refl _) with ⟨h0, hrun⟩ | ⟨e, he, w1, hal, hrun⟩
  · rw [hrun]
    exact hn _ _ _ (.inl ⟨rfl, rfl⟩) hs
  · have hsh := left_shrinks _ seen e he
    obtain ⟨hem, _⟩ := mem_left he
    obtain ⟨j, y, hj, rfl⟩ := mEs_mem (by simpa using hem)
    rw [Nat.zero_add] at hrun hsh
    rw [hrun]
    have hs1 : Sat κ w1 cs := by rcases hal with rfl | rfl; · exact hs
                                 · exact hs.drawn _
    obtain ⟨Fr, g1, g2⟩ := hs1.get (o := hr)
    exact hn _ _ _ (.inr ⟨j, y, hj, hsh, rfl, rfl⟩) (g2 _ κ _ (g1.pob_put (o' := itO m M.length (seen.push j))))
theorem OpN.entry {m r j : Nat} {y : Int × Nat} {M : List (Int × Nat)} {seen : Array Nat} {F G : HProp → List HProp} {x : Operand} (hx : ev fr x = some (.pointer (some ⟨r, 0, none⟩))) (hj : M[j]? = some y) [ho : Ob pob m cs (mapO M) F] [hr : Ob pob r cs (itO m M.length (seen.push j)) G] :
    OpN P n κ ⟨dst, .entry x, ty, pos, af, g⟩ fr cs (fun v cs' => v = .tuple #[.int .i64 y.1, .pointer (some ⟨y.2, 0, none⟩)] ∧ cs' = cs) := by
  intro a w next Q ha hs hn
  have hb : w.heap[m]? = some (.map (mEs 0 M).toArray M.length) := hs.pob_at (o := mapO M)
  have hi : w.heap[r]? = some (.mapIter (some m) M.length (seen.push j) M.length) := hs.pob_at (o := itO m M.length (seen.push j))
  have hg := mEs_get M 0 j
  rw [hj, Nat.zero_add, Option.map_some] at hg
  have := run_entry_at (P := P) w r m M.length seen (mEs 0 M).toArray M.length (ent j y) hi hb (by simpa using List.mem_of_getElem? hg) (by simpa using (mEs_born M 0).1)
  simp only [Oper.wpY, execOp, ha.eval hx, Sem.run_bind, this, Result.andThen_ok, Sem.run_pure]
  exact hn _ _ _ ⟨rfl, rfl⟩ hs
theorem St.mm {T : TypeId} (k : ∀ b, St P ops Q n κ rest ((d, .map (some b)) :: fr) (pob b (mapO []) :: cs)) (hd : Nat.blt d n.n = true := by rfl) (hw : wantedF ops fr g true = true := by rfl) : St P ops Q n κ (⟨some d, .makeMap T none, ty, pos, af, g⟩ :: rest) fr cs :=
  .nn .mkmap (fun _ _ ⟨b, e, e'⟩ => by rw [e, e']; exact k b) hd hw
theorem St.lku {T : TypeId} {m : Nat} {M : List (Int × Nat)} {F : HProp → List HProp} {x i : Operand} {z : Int} (k1 : z ∉ M.map (·.1) → St P ops Q n κ rest ((d, .pointer none) :: fr) cs) (k2 : ∀ b, (z, b) ∈ M → St P ops Q n κ rest ((d, .pointer (some ⟨b, 0, none⟩)) :: fr) cs)
    (h : ev fr x = some (.map (some m)) ∧ ev fr i = some (.int .i64 z) ∧ Mp P T ∧ Ob pob m cs (mapO M) F := by refine ⟨rfl, rfl, ?_, ?_⟩ <;> infer_instance) (hd : Nat.blt d n.n = true := by rfl) (hw : wantedF ops fr g true = true := by rfl) : St P ops Q n κ (⟨some d, .lookup T x i false, ty, pos, af, g⟩ :: rest) fr cs :=
  have := h.2.2.1; have := h.2.2.2
  .nn (.lookup h.1 h.2.1) (fun _ _ ⟨e, h⟩ => by
    rw [e]
    rcases h with ⟨e, h⟩ | ⟨b, h, e⟩
    · rw [e]; exact k1 h
    · rw [e]; exact k2 b h) hd hw
theorem St.mup {T : TypeId} {m b : Nat} {M : List (Int × Nat)} {F : HProp → List HProp} {x i y : Operand} {z : Int} (hk : z ∉ M.map (·.1)) (k : St P ops Q n κ rest fr (F (pob m (mapO (M ++ [(z, b)])))))
    (h : ev fr x = some (.map (some m)) ∧ ev fr i = some (.int .i64 z) ∧ ev fr y = some (.pointer (some ⟨b, 0, none⟩)) ∧ Mp P T ∧ Ob pob m cs (mapO M) F := by refine ⟨rfl, rfl, rfl, ?_, ?_⟩ <;> infer_instance) (hw : wantedF ops fr g true = true := by rfl) : St P ops Q n κ (⟨none, .mapUpdate T x i y, ty, pos, af, g⟩ :: rest) fr cs :=
  have := h.2.2.2.1; have := h.2.2.2.2
  .n0 (.mapup h.1 h.2.1 h.2.2.1 hk) (fun _ _ e => by rw [e]; exact k) hw
theorem St.rg {T : TypeId} {m : Nat} {M : List (Int × Nat)} {F : HProp → List HProp} {x : Operand} (k : ∀ r, St P ops Q n κ rest ((d, .pointer (some ⟨r, 0, none⟩)) :: fr) (pob r (itO m M.length #[]) :: cs))
    (h : ev fr x = some (.map (some m)) ∧ Mp P T ∧ Ob pob m cs (mapO M) F := by refine ⟨rfl, ?_, ?_⟩ <;> infer_instance) (hd : Nat.blt d n.n = true := by rfl) (hw : wantedF ops fr g true = true := by rfl) : St P ops Q n κ (⟨some d, .range T x, ty, pos, af, g⟩ :: rest) fr cs :=
  have := h.2.1; have := h.2.2
  .nn (.range h.1) (fun _ _ ⟨r, e, e'⟩ => by rw [e, e']; exact k r) hd hw
theorem St.nxt {m r : Nat} {M : List (Int × Nat)} {seen : Array Nat} {F G : HProp → List HProp} {x : Operand} (k1 : St P ops Q n κ rest ((d, .tuple #[.bool false]) :: fr) cs)
    (k2 : ∀ j y, M[j]? = some y → leftM M (seen.push j) < leftM M seen → St P ops Q n κ rest ((d, .tuple #[.bool true, .int .i64 y.1, .pointer (some ⟨y.2, 0, none⟩)]) :: fr) (G (pob r (itO m M.length (seen.push j)))))
    (h : ev fr x = some (.pointer (some ⟨r, 0, none⟩)) ∧ Ob pob m cs (mapO M) F ∧ Ob pob r cs (itO m M.length seen) G := by refine ⟨rfl, ?_, ?_⟩ <;> infer_instance) (hd : Nat.blt d n.n = true := by rfl) (hw : wantedF ops fr g true = true := by rfl) : St P ops Q n κ (⟨some d, .next x false, ty, pos, af, g⟩ :: rest) fr cs :=
  have := h.2.1; have := h.2.2
  .nn (.next h.1) (fun _ _ hK => by
    rcases hK with ⟨e, e'⟩ | ⟨j, y, h1, h2, e, e'⟩
    · rw [e, e']; exact k1
    · rw [e, e']; exact k2 j y h1 h2) hd hw
theorem St.ent {m r j : Nat} {y : Int × Nat} {M : List (Int × Nat)} {seen : Array Nat} {F G : HProp → List HProp} {x : Operand} (hj : M[j]? = some y) (k : St P ops Q n κ rest ((d, .tuple #[.int .i64 y.1, .pointer (some ⟨y.2, 0, none⟩)]) :: fr) cs)
    (h : ev fr x = some (.pointer (some ⟨r, 0, none⟩)) ∧ Ob pob m cs (mapO M) F ∧ Ob pob r cs (itO m M.length (seen.push j)) G := by refine ⟨rfl, ?_, ?_⟩ <;> infer_instance) (hd : Nat.blt d n.n = true := by rfl) (hw : wantedF ops fr g true = true := by rfl) : St P ops Q n κ (⟨some d, .entry x, ty, pos, af, g⟩ :: rest) fr cs :=
  have := h.2.1; have := h.2.2
  .nn (.entry h.1 hj) (fun _ _ ⟨e, e'⟩ => by rw [e, e']; exact k) hd hw
end
end Go.Proofs.YtpcechnalfaajaaDoor

/- Sums' memory: a block for each ledger. -/
namespace Go.Proofs.YtpcechnalfaajaaDoor
open Go Go.Proofs

instance : Mp Tryd.prog 107 := ⟨3, 111, by kernel_rfl, by kernel_rfl, fun _ => by kernel_rfl⟩
def S4 (a b c d : Nat) : List Int := limbs a ++ (limbs b ++ (limbs c ++ limbs d))
def sumS (done : List Account) (g : Int) : List Int := S4 (sumL (lDq g) done) (sumL (lCq g) done) (sumL (lDp g) done) (sumL (lCp g) done)
def sumP (done : List Account) (x : Int × Nat) : HProp := pts x.2 (114, cells .u64 (sumS done x.1))
def sumsP (done : List Account) (M : List (Int × Nat)) : List HProp := M.map (sumP done)
theorem sumsP_app (done : List Account) (A B : List (Int × Nat)) (x : Int × Nat) : sumsP done (A ++ x :: B) = sumsP done A ++ sumP done x :: sumsP done B := by simp [sumsP]
theorem sumsP_app2 (done : List Account) (A B : List (Int × Nat)) : sumsP done (A ++ B) = sumsP done A ++ sumsP done B := by simp [sumsP]
theorem sums_out {κ : Kap} {w : World} {done : List Account} {A B : List (Int × Nat)} {x : Int × Nat} {F R : List HProp} (h : Sat κ w (F ++ (sumsP done (A ++ x :: B) ++ R))) : Sat κ w (sumP done x :: (F ++ (sumsP done (A ++ B) ++ R))) := h.imp fun g hg => by
  rw [sumsP_app, List.append_assoc, List.cons_append, ← List.append_assoc] at hg
  have := sepL_out (F ++ sumsP done A) hg
  rw [sumsP_app2, List.append_assoc (sumsP done A), ← List.append_assoc F]
  exact this
theorem sums_in {κ : Kap} {w : World} {done : List Account} {A B : List (Int × Nat)} {x : Int × Nat} {F R : List HProp} (h : Sat κ w (sumP done x :: (F ++ (sumsP done (A ++ B) ++ R)))) : Sat κ w (F ++ (sumsP done (A ++ x :: B) ++ R)) := h.imp fun g hg => by
  rw [sumsP_app, List.append_assoc, List.cons_append, ← List.append_assoc]
  refine sepL_in (F ++ sumsP done A) ?_
  rw [sumsP_app2, List.append_assoc (sumsP done A), ← List.append_assoc F] at hg
  exact hg
theorem sums_drop {κ : Kap} {w : World} {done : List Account} {R : List HProp} : ∀ {M : List (Int × Nat)}, Sat κ w (sumsP done M ++ R) → Sat κ w R := by
  intro M
  induction M with
  | nil => intro h; exact h
  | cons x t ih => intro h; exact ih h.rows
theorem sumL_one {f : Account → Nat} {done : List Account} {a : Account} : sumL f (done ++ [a]) = sumL f done + f a := by rw [sumL_app, sumL_cons, sumL_nil, Nat.add_zero]
theorem sumS_other {done : List Account} {a : Account} {g : Int} (h : g ≠ a.ledger) : sumS (done ++ [a]) g = sumS done g := by
  have h' : ¬ a.ledger = g := fun e => h e.symm
  unfold sumS
  simp only [sumL_one, lDq, lCq, lDp, lCp, if_neg h', Nat.add_zero]
theorem sumS_same (done : List Account) (a : Account) : sumS (done ++ [a]) a.ledger = S4 (sumL (lDq a.ledger) done + a.dq.toNat) (sumL (lCq a.ledger) done + a.cq.toNat) (sumL (lDp a.ledger) done + a.dp.toNat) (sumL (lCp a.ledger) done + a.cp.toNat) := by
  unfold sumS
  rw [sumL_one, sumL_one, sumL_one, sumL_one, show lDq a.ledger a = a.dq.toNat from if_pos rfl, show lCq a.ledger a = a.cq.toNat from if_pos rfl, show lDp a.ledger a = a.dp.toNat from if_pos rfl, show lCp a.ledger a = a.cp.toNat from if_pos rfl]
theorem sumsP_other {done : List Account} {a : Account} {M : List (Int × Nat)} (h : ∀ x ∈ M, x.1 ≠ a.ledger) : sumsP (done ++ [a]) M = sumsP done M := by
  unfold sumsP
  refine List.map_congr_left fun x hx => ?_
  unfold sumP
  rw [sumS_other (h x hx)]
theorem sumL_zero {f : Account → Nat} {l : List Account} (h : ∀ a ∈ l, f a = 0) : sumL f l = 0 := by
  induction l with
  | nil => rfl
  | cons a t ih => rw [sumL_cons, h a (by simp), ih (fun x hx => h x (by simp [hx]))]
theorem sumS_zero {done : List Account} {g : Int} (h : ∀ a ∈ done, a.ledger ≠ g) : sumS done g = List.replicate 20 0 := by
  have z : ∀ a ∈ done, ¬ a.ledger = g := h
  unfold sumS
  rw [sumL_zero (f := lDq g) (fun a ha => if_neg (z a ha)), sumL_zero (f := lCq g) (fun a ha => if_neg (z a ha)), sumL_zero (f := lDp g) (fun a ha => if_neg (z a ha)), sumL_zero (f := lCp g) (fun a ha => if_neg (z a ha))]
  rfl
theorem sumL_bound {f : Account → Nat} (hf : ∀ a, f a < 340282366920938463463374607431768211456) : ∀ l : List Account, sumL f l ≤ l.length * 340282366920938463463374607431768211456 := by
  intro l
  induction l with
  | nil => simp [sumL_nil]
  | cons a t ih =>
    rw [sumL_cons, List.length_cons, Nat.add_mul]
    have := hf a
    omega
theorem l_lt {x : Num} {p : Prop} [Decidable p] : (if p then x.toNat else 0) < 340282366920938463463374607431768211456 := by
  have := x.isLt
  split <;> omega
theorem sum_small {f : Account → Nat} (hf : ∀ a, f a < 340282366920938463463374607431768211456) {l : List Account} (hl : l.length ≤ 32) : sumL f l < 1461501637330902918203684832716283019655932542976 := by
  have h1 := sumL_bound hf l
  have h2 : l.length * 340282366920938463463374607431768211456 ≤ 32 * 340282366920938463463374607431768211456 := Nat.mul_le_mul_right _ hl
  omega
theorem limbs_len (V : Nat) : (limbs V).length = 5 := rfl
theorem limbs5 (V : Nat) : ∃ a b c d e, limbs V = [a, b, c, d, e] := ⟨_, _, _, _, _, rfl⟩
end Go.Proofs.YtpcechnalfaajaaDoor

/- The law EngineSums: Sums. -/
namespace Go.Proofs.YtpcechnalfaajaaDoor
open Go Go.Proofs

theorem addq_tr (b : Nat) (Pl S : List Int) (V : Nat) (hV : V < 1461501637330902918203684832716283019655932542976) (n : Num) (κ : Kap) (cs : List HProp) :
    Tr Tryd.prog 54 [.pointer (some ⟨b, 0 + Pl.length, none⟩), .agg (nm n).toArray] κ (pts b (114, cells .u64 (Pl ++ limbs V ++ S)) :: cs) (.tuple #[]) (pts b (114, cells .u64 (Pl ++ limbs (V + n.toNat) ++ S)) :: cs) := by
  have := sums1_tr b Pl.length (Pl ++ limbs V ++ S) (by simp only [List.length_append, limbs_len]; omega) n κ cs
  rw [add_law Pl S V n hV] at this
  exact this
section
variable (b a0 a1 a2 a3 : Nat) (n : Num) (κ : Kap) (cs : List HProp)
theorem addA_tr (h : a0 < 1461501637330902918203684832716283019655932542976) : Tr Tryd.prog 54 ([] ++ [.pointer (some ⟨b, 0 + 0, none⟩), .agg (nm n).toArray] ++ []) κ (pts b (114, cells .u64 (S4 a0 a1 a2 a3)) :: cs) (.tuple #[]) (pts b (114, cells .u64 (S4 (a0 + n.toNat) a1 a2 a3)) :: cs) :=
  addq_tr b [] (limbs a1 ++ (limbs a2 ++ limbs a3)) a0 h n κ cs
theorem addB_tr (h : a1 < 1461501637330902918203684832716283019655932542976) : Tr Tryd.prog 54 ([] ++ [.pointer (some ⟨b, 0 + 5, none⟩), .agg (nm n).toArray] ++ []) κ (pts b (114, cells .u64 (S4 a0 a1 a2 a3)) :: cs) (.tuple #[]) (pts b (114, cells .u64 (S4 a0 (a1 + n.toNat) a2 a3)) :: cs) :=
  addq_tr b (limbs a0) (limbs a2 ++ limbs a3) a1 h n κ cs
theorem addC_tr (h : a2 < 1461501637330902918203684832716283019655932542976) : Tr Tryd.prog 54 ([] ++ [.pointer (some ⟨b, 0 + 10, none⟩), .agg (nm n).toArray] ++ []) κ (pts b (114, cells .u64 (S4 a0 a1 a2 a3)) :: cs) (.tuple #[]) (pts b (114, cells .u64 (S4 a0 a1 (a2 + n.toNat) a3)) :: cs) :=
  addq_tr b (limbs a0 ++ limbs a1) (limbs a3) a2 h n κ cs
theorem addD_tr (h : a3 < 1461501637330902918203684832716283019655932542976) : Tr Tryd.prog 54 ([] ++ [.pointer (some ⟨b, 0 + 15, none⟩), .agg (nm n).toArray] ++ []) κ (pts b (114, cells .u64 (S4 a0 a1 a2 a3)) :: cs) (.tuple #[]) (pts b (114, cells .u64 (S4 a0 a1 a2 (a3 + n.toNat))) :: cs) :=
  addq_tr b (limbs a0 ++ limbs a1 ++ limbs a2) [] a3 h n κ cs
end
theorem Tr.te {P : Program} {f : FuncId} {vs : List Value} {κ : Kap} {cs cs' : List HProp} {v : Value} (h : Tr P f vs κ cs v cs') : ∀ w, Sat κ w cs → Calls P f vs.toArray w fun e w' => ∃ _ : Unit, True ∧ e = .returned v ∧ Sat κ w' cs' :=
  fun w hs => (h w hs).mono fun _ _ ⟨h1, h2⟩ => ⟨(), trivial, h1, h2⟩
set_option maxHeartbeats 4000000 in
theorem sums_tr (l : List Account) (hl : l.length ≤ 32) (hok : SumsOk l) (p : Option Addr) (cap : Nat) (κ : Kap) (cs : List HProp) :
    Tr Tryd.prog 34 [.slice p l.length cap] κ (sl 46 (.slice p l.length cap) (37, l.flatMap encA) :: cs) (.bool true) cs := by
  refine .enter Tryd.func34 rfl rfl ?_
  repeat refine .seq ?_
  refine .reg ?_
  refine .as ?_
  refine .go ?_
  repeat refine .seq ?_
  refine .reg ?_
  refine .mm fun m => ?_
  refine .as ?_
  refine .go ?_
  repeat refine .seq ?_
  refine .reg ?_
  refine .as ?_
  refine .go ?_
  repeat refine .seq ?_
  refine .reg ?_
  refine .mv ?_
  refine .ln ?_
  refine .mv ?_
  refine .go ?_
  refine .block ?_
  refine .sat (cs' := sl 46 (.slice p l.length cap) (37, l.flatMap encA) :: pob m (mapO []) :: (sumsP (l.take 0) [] ++ cs)) (fun w hs => hs.pm 2 [1, 0]) ?_
  refine .lp (fun x : Nat × List (Int × Nat) => [(2, .bool false), (3, .map (some m)), (4, .func (.func 54) #[] #[]), (11, .slice p l.length cap), (12, .int .i64 l.length), (13, .int .i64 x.1)])
    (fun x => sl 46 (.slice p l.length cap) (37, l.flatMap encA) :: pob m (mapO x.2) :: (sumsP (l.take x.1) x.2 ++ cs)) (fun x => x.1 ≤ l.length ∧ (x.2.map (·.1)).Nodup ∧ ∀ a ∈ l.take x.1, a.ledger ∈ x.2.map (·.1)) (fun x => l.length - x.1) (0, []) ⟨Nat.zero_le _, List.nodup_nil, fun a ha => by simp at ha⟩ (by repeat (first | exact trivial | refine ⟨rfl, ?_⟩)) rfl fun x hx => ?_
  obtain ⟨k, M⟩ := x
  obtain ⟨hk, hnd, hled⟩ := hx
  simp only at hk hnd hled
  refine .fra (fr' := [(2, .bool false), (3, .map (some m)), (4, .func (.func 54) #[] #[]), (11, .slice p l.length cap), (12, .int .i64 l.length), (13, .int .i64 k)]) (by repeat (first | exact trivial | refine ⟨rfl, ?_⟩)) ?_
  refine .sat (cs' := sl 46 (.slice p l.length cap) (37, l.flatMap encA) :: pob m (mapO M) :: (sumsP (l.take k) M ++ cs)) (fun w hs => hs) ?_
  repeat refine .seq ?_
  refine .reg ?_
  refine .lt ?_
  refine .go ?_
  repeat refine .seq ?_
  refine .cond rfl (fun hc => ?_) (fun hc => ?_)
  · have hkl : k < l.length := by have : (k : Int) < l.length := of_decide_eq_true hc; omega
    have hget := accA_get l k hkl
    have hsn : l.take (k + 1) = l.take k ++ [l[k]] := List.take_succ_eq_append_getElem hkl
    have hwin := hok.win _ (List.getElem_mem hkl)
    have hdl : (l.take k).length ≤ 32 := by rw [List.length_take]; omega
    generalize l[k] = a at *
    generalize hdone : l.take k = done at *
    refine .go ?_
    repeat refine .seq ?_
    refine .block ?_
    refine .slp (p := p) (cap := cap) (sz := 46) (n0 := l.length) (by omega) (fun br hbr _ => ?_)
    subst hbr
    repeat refine .seq ?_
    refine .reg ?_
    refine .ix ?_
    refine .lx hget ?_
    refine .al fun b6 => ?_
    refine .stw (v := .agg (encA a).toArray) ?_
    rw [vc_agg]
    refine .go ?_
    refine .sat (cs' := pob m (mapO M) :: pts b6 (37, encA a) :: sl 46 (.slice (some ⟨br, 0, none⟩) l.length cap) (37, l.flatMap encA) :: (sumsP done M ++ cs)) (fun w hs => hs.pm 3 [2, 0, 1]) ?_
    refine .jn (ι := Option Nat) (fun o => [(2, .bool false), (3, .map (some m)), (4, .func (.func 54) #[] #[]), (6, .pointer (some ⟨b6, 0, none⟩)), (7, .pointer (o.map fun b => ⟨b, 0, none⟩)), (11, .slice (some ⟨br, 0, none⟩) l.length cap), (12, .int .i64 l.length), (13, .int .i64 k)])
      (fun _ => pob m (mapO M) :: pts b6 (37, encA a) :: sl 46 (.slice (some ⟨br, 0, none⟩) l.length cap) (37, l.flatMap encA) :: (sumsP done M ++ cs)) (fun o => (o = none ∧ a.ledger ∉ M.map (·.1)) ∨ ∃ b, o = some b ∧ (a.ledger, b) ∈ M) ?_ fun o ho => ?_
    · refine .reg ?_
      refine .mv ?_
      refine .fa ?_
      refine .ld (v := .int .i64 a.ledger) ?_
      refine .lku (fun hn => ?_) (fun b hb => ?_)
      · refine .as ?_
        exact .nil fun aa w hf hs => ⟨none, .inl ⟨rfl, hn⟩, hf.to (by repeat (first | exact trivial | refine ⟨rfl, ?_⟩)), hs⟩
      · refine .as ?_
        exact .nil fun aa w hf hs => ⟨some b, .inr ⟨b, rfl, hb⟩, hf.to (by repeat (first | exact trivial | refine ⟨rfl, ?_⟩)), hs⟩
    refine .jn (ι := List (Int × Nat) × List (Int × Nat) × Nat) (fun x => [(2, .bool false), (3, .map (some m)), (4, .func (.func 54) #[] #[]), (6, .pointer (some ⟨b6, 0, none⟩)), (7, .pointer (some ⟨x.2.2, 0, none⟩)), (11, .slice (some ⟨br, 0, none⟩) l.length cap), (12, .int .i64 l.length), (13, .int .i64 k)])
      (fun x => pts x.2.2 (114, cells .u64 (sumS done a.ledger)) :: pob m (mapO (x.1 ++ (a.ledger, x.2.2) :: x.2.1)) :: pts b6 (37, encA a) :: sl 46 (.slice (some ⟨br, 0, none⟩) l.length cap) (37, l.flatMap encA) :: (sumsP done (x.1 ++ x.2.1) ++ cs))
      (fun x => ((x.1 ++ (a.ledger, x.2.2) :: x.2.1).map (·.1)).Nodup ∧ ∀ u ∈ done, u.ledger ∈ (x.1 ++ (a.ledger, x.2.2) :: x.2.1).map (·.1)) ?_ fun x hx => ?_
    · repeat refine .seq ?_
      refine .reg ?_
      refine .mv ?_
      refine .pnl ?_
      refine .go ?_
      rcases ho with ⟨rfl, hn⟩ | ⟨b, rfl, hb⟩
      · refine .cond rfl (fun hc => ?_) (fun hc => by cases hc)
        repeat refine .seq ?_
        refine .reg ?_
        refine .bz ?_
        refine .bx fun b24 => ?_
        refine .as ?_
        refine .go ?_
        rw [vc_agg]
        refine .reg ?_
        refine .mv ?_
        refine .fa ?_
        refine .ld (v := .int .i64 a.ledger) ?_
        refine .mv ?_
        refine .mup hn ?_
        refine .nil fun aa w hf hs => ⟨(M, [], b24), ⟨?_, fun u hu => ?_⟩, hf.to (by repeat (first | exact trivial | refine ⟨rfl, ?_⟩)), ?_⟩
        · simp only [List.map_append, List.map_cons, List.map_nil]
          rw [List.nodup_append]
          refine ⟨hnd, by simp, fun y hy z hz => ?_⟩
          rw [List.mem_singleton] at hz
          subst hz
          intro hyz
          subst hyz
          exact hn hy
        · simp only [List.map_append]
          exact List.mem_append_left _ (hled u hu)
        · rw [sumS_zero (fun u hu h => hn (by rw [← h]; exact hled u hu))]
          show Sat κ w (_ :: _ :: _ :: _ :: (sumsP done (M ++ []) ++ cs))
          rw [List.append_nil]
          exact hs
      · refine .cond rfl (fun hc => by cases hc) (fun hc => ?_)
        obtain ⟨A, B, rfl⟩ := List.append_of_mem hb
        refine .skip fun aa w hf hs => ⟨(A, B, b), ⟨hnd, hled⟩, hf.to (by repeat (first | exact trivial | refine ⟨rfl, ?_⟩)), ?_⟩
        exact sums_out (F := [_, _, _]) hs
    obtain ⟨A, B, b⟩ := x
    obtain ⟨hnd2, hled2⟩ := hx
    simp only at hnd2 hled2
    refine .fra (fr' := [(2, .bool false), (3, .map (some m)), (4, .func (.func 54) #[] #[]), (6, .pointer (some ⟨b6, 0, none⟩)), (7, .pointer (some ⟨b, 0, none⟩)), (11, .slice (some ⟨br, 0, none⟩) l.length cap), (12, .int .i64 l.length), (13, .int .i64 k)]) (by repeat (first | exact trivial | refine ⟨rfl, ?_⟩)) ?_
    have hM : ∃ M', M' = A ++ (a.ledger, b) :: B := ⟨_, rfl⟩
    obtain ⟨M', hM'⟩ := hM
    rw [← hM'] at hnd2 hled2
    have hAB : ∀ x ∈ A ++ B, x.1 ≠ a.ledger := by
      rw [hM', List.map_append, List.map_cons] at hnd2
      obtain ⟨n1, n2, n3⟩ := List.nodup_append.1 hnd2
      intro x hx
      rcases List.mem_append.1 hx with h | h
      · exact n3 _ (List.mem_map_of_mem h) _ (by simp)
      · intro he
        have hm : x.1 ∈ B.map (·.1) := List.mem_map_of_mem h
        rw [he] at hm
        exact (List.nodup_cons.1 n2).1 hm
    refine .sat (cs' := pts b (114, cells .u64 (S4 (sumL (lDq a.ledger) done) (sumL (lCq a.ledger) done) (sumL (lDp a.ledger) done) (sumL (lCp a.ledger) done))) :: pob m (mapO M') :: pts b6 (37, encA a) :: sl 46 (.slice (some ⟨br, 0, none⟩) l.length cap) (37, l.flatMap encA) :: (sumsP done (A ++ B) ++ cs)) (fun w hs => by rw [hM']; exact hs) ?_
    have q1 : sumL (lDq a.ledger) done < 1461501637330902918203684832716283019655932542976 := sum_small (fun _ => l_lt) hdl
    have q2 : sumL (lCq a.ledger) done < 1461501637330902918203684832716283019655932542976 := sum_small (fun _ => l_lt) hdl
    have q3 : sumL (lDp a.ledger) done < 1461501637330902918203684832716283019655932542976 := sum_small (fun _ => l_lt) hdl
    have q4 : sumL (lCp a.ledger) done < 1461501637330902918203684832716283019655932542976 := sum_small (fun _ => l_lt) hdl
    have hsame := sumS_same done a
    have hother := sumsP_other (done := done) hAB
    generalize sumL (lDq a.ledger) done = s1 at *
    generalize sumL (lCq a.ledger) done = s2 at *
    generalize sumL (lDp a.ledger) done = s3 at *
    generalize sumL (lCp a.ledger) done = s4 at *
    repeat refine .seq ?_
    refine .regD [(b6, 0, encA a)] [] ?_
    refine .mv 0 ?_
    refine .mv 1 ?_
    refine .nc 2 ?_
    refine .fa 3 ?_
    refine .fa 4 ?_
    refine .ld 5 (v := .agg (nm a.dq).toArray) ?_
    refine .ceV 6 (fst := []) (cap := []) (vs := [.pointer (some ⟨b, 0 + 0, none⟩), .agg (nm a.dq).toArray]) (addA_tr b s1 s2 s3 s4 a.dq κ _ q1).te (fun _ _ => ?_)
    refine .go ?_
    repeat refine .seq ?_
    refine .regD [(b6, 0, encA a)] [] ?_
    refine .mv 0 ?_
    refine .mv 1 ?_
    refine .nc 2 ?_
    refine .fa 3 ?_
    refine .fa 4 ?_
    refine .ld 5 (v := .agg (nm a.cq).toArray) ?_
    refine .ceV 6 (fst := []) (cap := []) (vs := [.pointer (some ⟨b, 0 + 5, none⟩), .agg (nm a.cq).toArray]) (addB_tr b (s1 + a.dq.toNat) s2 s3 s4 a.cq κ _ q2).te (fun _ _ => ?_)
    refine .go ?_
    repeat refine .seq ?_
    refine .regD [(b6, 0, encA a)] [] ?_
    refine .mv 0 ?_
    refine .mv 1 ?_
    refine .nc 2 ?_
    refine .fa 3 ?_
    refine .fa 4 ?_
    refine .ld 5 (v := .agg (nm a.dp).toArray) ?_
    refine .ceV 6 (fst := []) (cap := []) (vs := [.pointer (some ⟨b, 0 + 10, none⟩), .agg (nm a.dp).toArray]) (addC_tr b (s1 + a.dq.toNat) (s2 + a.cq.toNat) s3 s4 a.dp κ _ q3).te (fun _ _ => ?_)
    refine .go ?_
    repeat refine .seq ?_
    refine .regD [(b6, 0, encA a)] [] ?_
    refine .mv 0 ?_
    refine .mv 1 ?_
    refine .nc 2 ?_
    refine .fa 3 ?_
    refine .fa 4 ?_
    refine .ld 5 (v := .agg (nm a.cp).toArray) ?_
    refine .ceV 6 (fst := []) (cap := []) (vs := [.pointer (some ⟨b, 0 + 15, none⟩), .agg (nm a.cp).toArray]) (addD_tr b (s1 + a.dq.toNat) (s2 + a.cq.toNat) (s3 + a.dp.toNat) s4 a.cp κ _ q4).te (fun _ _ => ?_)
    refine .go ?_
    repeat refine .seq ?_
    refine .reg ?_
    refine .ldw ?_
    refine .cl (within_tr a κ _) ?_
    rw [hwin]
    refine .nt ?_
    refine .go ?_
    refine .cond rfl (fun hc => by cases hc) (fun hc => ?_)
    rw [← hsame]
    refine .go ?_
    refine .reg ?_
    refine .ad ?_
    refine .mv ?_
    rw [show (k : Int) + 1 = ((k + 1 : Nat) : Int) by omega]
    refine .nil fun aa w hf hs => ⟨(k + 1, M'), ⟨hkl, hnd2, fun u hu => ?_⟩, by show l.length - (k + 1) < l.length - k; omega, hf.to (by repeat (first | exact trivial | refine ⟨rfl, ?_⟩)), ?_⟩
    · rw [hsn] at hu
      rcases List.mem_append.1 hu with hu | hu
      · exact hled2 u hu
      · rw [List.mem_singleton.1 hu, hM']; simp
    · show Sat κ w (sl 46 (.slice (some ⟨br, 0, none⟩) l.length cap) (37, l.flatMap encA) :: pob m (mapO M') :: (sumsP (l.take (k + 1)) M' ++ cs))
      rw [hsn]
      have h1 : Sat κ w (sumP (done ++ [a]) (a.ledger, b) :: (([sl 46 (.slice (some ⟨br, 0, none⟩) l.length cap) (37, l.flatMap encA), pob m (mapO M')] : List HProp) ++ (sumsP (done ++ [a]) (A ++ B) ++ cs))) := by
        rw [hother]
        exact (hs.pm 4 [0, 3, 1, 2]).imp fun g hg => sepL_tails (F := [_, _, _]) (fun g hg => by
          obtain ⟨h1, h2, s1, s2, d, hc, hr⟩ := hg
          exact sepL_sub hr s2) hg
      have h2 := sums_in h1
      rw [← hM'] at h2
      exact h2
  have hkl : k = l.length := by have : ¬ (k : Int) < l.length := of_decide_eq_false hc; omega
  subst hkl
  rw [List.take_length] at *
  refine .sat (cs' := pob m (mapO M) :: (sumsP l M ++ cs)) (fun w hs => hs.rows) ?_
  refine .xgo ?_
  repeat refine .seq ?_
  refine .reg ?_
  refine .mv ?_
  refine .rg fun r => ?_
  refine .go ?_
  refine .block ?_
  refine .lp (fun seen : Array Nat => [(2, .bool false), (62, .pointer (some ⟨r, 0, none⟩))]) (fun seen => pob r (itO m M.length seen) :: pob m (mapO M) :: (sumsP l M ++ cs)) (fun _ => True) (fun seen => leftM M seen) #[] trivial (by repeat (first | exact trivial | refine ⟨rfl, ?_⟩)) rfl fun seen _ => ?_
  refine .sat (cs' := pob r (itO m M.length seen) :: pob m (mapO M) :: (sumsP l M ++ cs)) (fun w hs => hs) ?_
  repeat refine .seq ?_
  refine .reg ?_
  refine .nxt (m := m) (M := M) (seen := seen) ?_ (fun j y hj hlt => ?_)
  · refine .ex ?_
    refine .go ?_
    repeat refine .seq ?_
    refine .cond rfl (fun hc => by cases hc) (fun hc => ?_)
    refine .xgo ?_
    repeat refine .seq ?_
    refine .reg ?_
    refine .as ?_
    refine .go ?_
    refine .r1 fun w hs => ?_
    exact ⟨rfl, sums_drop hs.rows.rows⟩
  · refine .ex ?_
    refine .go ?_
    repeat refine .seq ?_
    refine .cond rfl (fun hc => ?_) (fun hc => by cases hc)
    refine .go ?_
    repeat refine .seq ?_
    refine .block ?_
    repeat refine .seq ?_
    refine .reg ?_
    refine .ent (m := m) (seen := seen) hj ?_
    obtain ⟨A, B, hM⟩ := List.append_of_mem (List.mem_of_getElem? hj)
    have hp := hok.lp y.1
    have hq := hok.lq y.1
    refine .ex ?_
    refine .as ?_
    refine .go ?_
    repeat refine .seq ?_
    have hS : sumS l y.1 = S4 (sumL (lDq y.1) l) (sumL (lDq y.1) l) (sumL (lDp y.1) l) (sumL (lDp y.1) l) := by unfold sumS; rw [hp, hq]
    obtain ⟨x0, x1, x2, x3, x4, hX⟩ := limbs5 (sumL (lDq y.1) l)
    obtain ⟨y0, y1, y2, y3, y4, hY⟩ := limbs5 (sumL (lDp y.1) l)
    have hS : sumS l y.1 = [x0, x1, x2, x3, x4, x0, x1, x2, x3, x4, y0, y1, y2, y3, y4, y0, y1, y2, y3, y4] := by rw [hS]; unfold S4; rw [hX, hY]; rfl
    refine .sat (cs' := pts y.2 (114, cells .u64 [x0, x1, x2, x3, x4, x0, x1, x2, x3, x4, y0, y1, y2, y3, y4, y0, y1, y2, y3, y4]) :: pob r (itO m M.length (seen.push j)) :: pob m (mapO M) :: (sumsP l (A ++ B) ++ cs)) (fun w hs => by
      rw [hM] at hs ⊢
      have := sums_out (F := [_, _]) hs
      unfold sumP at this
      rw [hS] at this
      exact this) ?_
    refine .regD [(y.2, 0, cells .u64 [x0, x1, x2, x3, x4, x0, x1, x2, x3, x4, y0, y1, y2, y3, y4, y0, y1, y2, y3, y4])] [] ?_
    refine .mv 0 ?_
    refine .nc 1 ?_
    refine .fa 2 ?_
    refine .ld 3 (v := .agg (cells .u64 [x0, x1, x2, x3, x4]).toArray) ?_
    refine .mv 4 ?_
    refine .nc 5 ?_
    refine .fa 6 ?_
    refine .ld 7 (v := .agg (cells .u64 [x0, x1, x2, x3, x4]).toArray) ?_
    refine .net (cells .u64 [x0, x1, x2, x3, x4]) (cells .u64 [x0, x1, x2, x3, x4]) (r := false) (by rw [(rowEq_of _ _ rfl).2 rfl]; rfl) ⟨⟨rfl, by kernel_rfl⟩, ⟨rfl, by kernel_rfl⟩⟩ 8 ?_
    refine .mv 9 ?_
    refine .mv 10 ?_
    refine .nc 11 ?_
    refine .fa 12 ?_
    refine .ld 13 (v := .agg (cells .u64 [y0, y1, y2, y3, y4]).toArray) ?_
    refine .mv 14 ?_
    refine .nc 15 ?_
    refine .fa 16 ?_
    refine .ld 17 (v := .agg (cells .u64 [y0, y1, y2, y3, y4]).toArray) ?_
    refine .net (cells .u64 [y0, y1, y2, y3, y4]) (cells .u64 [y0, y1, y2, y3, y4]) (r := false) (by rw [(rowEq_of _ _ rfl).2 rfl]; rfl) ⟨⟨rfl, by kernel_rfl⟩, ⟨rfl, by kernel_rfl⟩⟩ 18 ?_
    first | refine .pt 19 ?_ | refine .pf 19 ?_
    refine .go ?_
    refine .cond rfl (fun hc => by cases hc) (fun hc => ?_)
    refine .skip fun aa w hf hs => ⟨seen.push j, trivial, hlt, hf.to (by repeat (first | exact trivial | refine ⟨rfl, ?_⟩)), ?_⟩
    have h1 : Sat κ w (sumP l y :: (([pob r (itO m M.length (seen.push j)), pob m (mapO M)] : List HProp) ++ (sumsP l (A ++ B) ++ cs))) := by
      unfold sumP
      rw [hS]
      exact hs
    have h2 := sums_in h1
    have hM2 : A ++ y :: B = M := hM.symm
    rw [hM2] at h2
    exact h2
end Go.Proofs.YtpcechnalfaajaaDoor

/- The law EngineSteps. -/
namespace Go.Proofs.YtpcechnalfaajaaDoor
open Go Go.Proofs

theorem eng_drop {κ : Kap} {w : World} {b : Nat} {e : Eng} {i : EngI} {cs : List HProp} (hs : Sat κ w (engO b e i cs)) : Sat κ w cs := by
  have h1 : Sat κ w ([_, _, _, _, _, _] ++ (rowsP e.rws i.lb ++ cs)) := hs
  have h2 : Sat κ w (rowsP e.rws i.lb ++ cs) := h1.imp fun g hg => sepL_cut [] [_, _, _, _, _, _] hg
  exact h2.imp fun g hg => sepL_cut [] (rowsP e.rws i.lb) hg
set_option maxHeartbeats 4000000 in
theorem steps_tr (n part : Num) (w0 w1 : Int) (κ : Kap) (hκ : Laid κ) (cs : List HProp) : Tr Tryd.prog 3 [.agg (nm n).toArray, .agg (nm part).toArray, .agg #[.int .i64 w0, .int .i64 w1]] κ cs (.bool true) cs := by
  refine .enter Tryd.func3 rfl rfl ?_
  refine .seq ?_
  refine .reg ?_
  refine .bx fun b3 => ?_
  refine .bx fun b4 => ?_
  refine .bx fun b5 => ?_
  refine .as ?_
  refine .go ?_
  refine .seq ?_
  refine .seq ?_
  refine .reg ?_
  rw [vc_agg, vc_agg]
  refine .cl (fit_tr κ hκ _) ?_
  refine .nt ?_
  refine .go ?_
  refine .cond rfl (fun hc => by cases hc) (fun hc => ?_)
  refine .go ?_
  refine .seq ?_
  refine .reg ?_
  refine .ixa ?_
  refine .ld ?_
  refine .as ?_
  refine .go ?_
  refine .seq ?_
  refine .reg ?_
  refine .ce (newO_tr κ _) (fun x hx => ?_)
  generalize x.1 = b at *
  generalize x.2 = i at *
  refine .al fun b8 => ?_
  refine .st ?_
  refine .go ?_
  refine .seq ?_
  rw [vc_agg]
  refine .sat (cs' := boxE b8 b :: pts b3 (24, nm n) :: pts b4 (24, nm part) :: engO b Eng.empty i cs) (fun w hs => (hs.imp fun _ hg => sepL_tails (F := [_]) (fun _ hg => (eng_back [_, _, _]).2 hg) hg).pm 4 [0, 3, 2]) ?_
  refine .regD [(b8, 0, [ptrV b])] [] ?_
  refine .ld 0 ?_
  refine .cl 1 (of_tr 1 (by decide) κ _) ?_
  refine .bd 2 (r := encA (acctN 1)) ?_ rfl ⟨inferInstance, inferInstance, rfl, by kernel_rfl⟩
  refine .cl 3 (of_tr 2 (by decide) κ _) ?_
  refine .bd 4 (r := encA (acctN 2)) ?_ rfl ⟨inferInstance, inferInstance, rfl, by kernel_rfl⟩
  refine .bs 5 (r := [acctN 1, acctN 2].flatMap encA) (fun b30 => ?_) rfl ⟨inferInstance, inferInstance, ⟨rfl, rfl, rfl, rfl⟩, rfl, by kernel_rfl⟩
  refine .bd 6 (r := reqC (reqA (some ⟨b30, 0, none⟩) [acctN 1, acctN 2] 2)) ?_ rfl ⟨inferInstance, inferInstance, rfl, by kernel_rfl⟩
  refine .ce 7 (two3_tr b i hx b30 2 κ hκ _ _ _ _) (fun z hz => ?_)
  generalize z.1 = i1 at *
  generalize z.2 = v32
  refine .go ?_
  refine .seq ?_
  refine .reg ?_
  refine .mf ?_
  refine .as ?_
  refine .go ?_
  refine .seq ?_
  refine .seq ?_
  refine .regD [(b8, 0, [ptrV b]), (b3, 0, nm n)] [] ?_
  refine .mv 0 ?_
  refine .ldw 4 ?_
  refine .cl 1 (of_tr 1 (by decide) κ _) ?_
  refine .cl 2 (of_tr 1 (by decide) κ _) ?_
  refine .cl 3 (of_tr 2 (by decide) κ _) ?_
  refine .bd 5 (r := encT (stT n)) ?_ rfl ⟨inferInstance, inferInstance, rfl, by kernel_rfl⟩
  refine .ceV 6 (fst := []) (cap := [.pointer (some ⟨b8, 0, none⟩)]) (vs := [.agg (encT (stT n)).toArray]) (doS2_tr b b8 two0 i1 hz (by omega) two0_w (stT n) κ hκ _ _ _) (fun i2 h2 => ?_)
  obtain ⟨l1, -⟩ := steps_law false false n part
  have hw1 := do1_w two0_w (stT n)
  rw [l1]
  refine .ne 7 ?_
  refine .go ?_
  refine .cond rfl (fun hc => by cases hc) (fun hc => ?_)
  refine .go ?_
  refine .seq ?_
  refine .reg ?_
  refine .as ?_
  refine .go ?_
  obtain ⟨vd, hvd⟩ : ∃ vd : Bool, decide (band w0 1 = 1) = vd := ⟨_, rfl⟩
  obtain ⟨tk, htk⟩ : ∃ tk : Bool, decide (band w0 2 = 2) = tk := ⟨_, rfl⟩
  refine .jn (ι := Unit) (fun _ => [(3, .pointer (some ⟨b3, 0, none⟩)), (4, .pointer (some ⟨b4, 0, none⟩)), (6, .bool false), (7, .int .i64 w0), (8, .pointer (some ⟨b8, 0, none⟩)), (9, .func (.func 18) #[] #[.pointer (some ⟨b8, 0, none⟩)]), (10, .int .i64 (if vd then 8 else 4))]) (fun _ => boxE b8 b :: pts b3 (24, nm n) :: pts b4 (24, nm part) :: engO b (do1 two0 (stT n)).1 i2 cs) (fun _ => True) ?_ fun _ _ => ?_
  · refine .seq ?_
    refine .reg ?_
    refine .mv ?_
    refine .an ?_
    refine .eq ?_
    refine .go ?_
    refine .cond rfl (fun hc => ?_) (fun hc => ?_)
    · have : vd = true := hvd.symm.trans hc
      subst this
      refine .reg ?_
      refine .as ?_
      exact .nil fun aa w hf hs => ⟨(), trivial, hf.to (by repeat (first | exact trivial | refine ⟨rfl, ?_⟩)), hs⟩
    · have : vd = false := hvd.symm.trans hc
      subst this
      exact .skip fun aa w hf hs => ⟨(), trivial, hf.to (by repeat (first | exact trivial | refine ⟨rfl, ?_⟩)), hs⟩
  refine .jn (ι := EngI) (fun _ => [(3, .pointer (some ⟨b3, 0, none⟩)), (4, .pointer (some ⟨b4, 0, none⟩)), (6, .bool false), (7, .int .i64 w0), (8, .pointer (some ⟨b8, 0, none⟩)), (9, .func (.func 18) #[] #[.pointer (some ⟨b8, 0, none⟩)]), (10, .int .i64 (if vd then 8 else 4))]) (fun i3 => boxE b8 b :: pts b3 (24, nm n) :: pts b4 (24, nm part) :: engO b (stPre tk n) i3 cs) (fun i3 => i3.lb.length = (stPre tk n).rws.length) ?_ fun i3 h3 => ?_
  · refine .seq ?_
    refine .reg ?_
    refine .mv ?_
    refine .an ?_
    refine .eq ?_
    refine .go ?_
    refine .cond rfl (fun hc => ?_) (fun hc => ?_)
    · have : tk = true := htk.symm.trans hc
      subst this
      refine .reg ?_
      refine .ld ?_
      refine .bd (r := reqC (tickR 5)) ?_ ⟨inferInstance, inferInstance, rfl, by kernel_rfl⟩
      refine .ce (applyF_tr [boxE b8 b, pts b3 (24, nm n), pts b4 (24, nm part)] b (do1 two0 (stT n)).1 i2 h2 (m := 604) (by omega) hw1 (tickR 5) (by decide) (by decide) (by decide) κ hκ [] cs ⟨[], _, rfl⟩ (.inl rfl) (.inl rfl)) (fun y hy => ?_)
      rw [steps_apply] at hy ⊢
      exact .nil fun aa w hf hs => ⟨y.1, hy, hf.to (by repeat (first | exact trivial | refine ⟨rfl, ?_⟩)), hs.rows⟩
    · have : tk = false := htk.symm.trans hc
      subst this
      exact .skip fun aa w hf hs => ⟨i2, h2, hf.to (by repeat (first | exact trivial | refine ⟨rfl, ?_⟩)), hs⟩
  obtain ⟨-, l2, l3, l4, l5, l6⟩ := steps_law tk vd n part
  have hwP := stPre_w tk n
  have hwQ := do1_w hwP (stS 2 1 part vd)
  refine .seq ?_
  refine .regD [(b8, 0, [ptrV b]), (b4, 0, nm part)] [] ?_
  refine .mv 0 ?_
  refine .ldw 3 ?_
  refine .mv 4 ?_
  refine .cl 1 (of_tr 2 (by decide) κ _) ?_
  refine .cl 2 (of_tr 1 (by decide) κ _) ?_
  refine .bd 5 (r := encT (stS 2 1 part vd)) ?_ rfl ⟨inferInstance, inferInstance, rfl, by kernel_rfl⟩
  refine .ceV 6 (fst := []) (cap := [.pointer (some ⟨b8, 0, none⟩)]) (vs := [.agg (encT (stS 2 1 part vd)).toArray]) (doS2_tr b b8 (stPre tk n) i3 h3 (by omega) hwP (stS 2 1 part vd) κ hκ _ _ _) (fun i4 h4 => ?_)
  rw [l2]
  generalize (do1 (stPre tk n) (stS 2 1 part vd)).1 = E at *
  refine .as 7 ?_
  refine .go ?_
  refine .seq ?_
  refine .reg ?_
  refine .as ?_
  refine .go ?_
  refine .seq ?_
  refine .reg ?_
  refine .ldw ?_
  refine .ldw ?_
  refine .cl (compare_tr part n κ _) ?_
  refine .as ?_
  refine .go ?_
  refine .jn (ι := Unit) (fun _ => [(3, .pointer (some ⟨b3, 0, none⟩)), (4, .pointer (some ⟨b4, 0, none⟩)), (6, .bool false), (7, .int .i64 w0), (8, .pointer (some ⟨b8, 0, none⟩)), (9, .func (.func 18) #[] #[.pointer (some ⟨b8, 0, none⟩)]), (10, .int .i64 (if vd then 8 else 4)), (11, .int .i64 (stWant tk vd n part)), (12, .int .i64 (stWant tk vd n part))]) (fun _ => boxE b8 b :: pts b3 (24, nm n) :: pts b4 (24, nm part) :: engO b E i4 cs) (fun _ => True) ?_ fun _ _ => ?_
  · refine .block ?_
    refine .seq ?_
    refine .reg ?_
    refine .mv ?_
    refine .an ?_
    refine .eq ?_
    refine .as ?_
    refine .go ?_
    rw [htk]
    cases tk with
    | true =>
      refine .cond rfl (fun hc => ?_) (fun hc => by cases hc)
      rw [show stWant true vd n part = 23 from if_pos rfl]
      refine .reg ?_
      refine .as ?_
      exact .nil fun aa w hf hs => ⟨(), trivial, hf.to (by repeat (first | exact trivial | refine ⟨rfl, ?_⟩)), hs⟩
    | false =>
      refine .cond rfl (fun hc => by cases hc) (fun hc => ?_)
      have hw : stWant false vd n part = if part ≠ 0 ∧ (n.toNat < part.toNat ∨ (part.toNat < n.toNat ∧ vd = true)) then 24 else 0 := if_neg (by decide)
      have hy : (part ≠ 0 ∧ (n.toNat < part.toNat ∨ (part.toNat < n.toNat ∧ vd = true))) → stWant false vd n part = 24 := fun h => hw.trans (if_pos h)
      have hn : ¬ (part ≠ 0 ∧ (n.toNat < part.toNat ∨ (part.toNat < n.toNat ∧ vd = true))) → stWant false vd n part = 0 := fun h => hw.trans (if_neg h)
      clear hw
      generalize stWant false vd n part = W at *
      refine .seq ?_
      refine .reg ?_
      refine .ldw ?_
      refine .bz ?_
      refine .nen part 0 ?_
      refine .mv ?_
      by_cases h0 : part = 0
      · rw [decide_eq_true h0, hn (fun h => h.1 h0)]
        repeat refine .skip ?_
        first | refine .pt ?_ | refine .pf ?_
        refine .as ?_
        refine .go ?_
        refine .cond rfl (fun hc => by cases hc) (fun hc => ?_)
        exact .skip fun aa w hf hs => ⟨(), trivial, hf.to (by repeat (first | exact trivial | refine ⟨rfl, ?_⟩)), hs⟩
      · rw [decide_eq_false h0]
        rcases cmp_ways part n with ⟨h, h'⟩ | ⟨h, h'⟩ | ⟨h, h'⟩
        · rw [h']
          refine .mv ?_
          refine .gt ?_
          refine .mv ?_
          refine .mv ?_
          refine .lt ?_
          refine .mv ?_
          refine .mv ?_
          refine .eq ?_
          first | refine .pt ?_ | refine .pf ?_
          first | refine .pt ?_ | refine .pf ?_
          first | refine .pt ?_ | refine .pf ?_
          refine .as ?_
          refine .go ?_
          cases vd with
          | true =>
            rw [hy ⟨h0, .inr ⟨h, rfl⟩⟩]
            refine .cond rfl (fun hc => ?_) (fun hc => by cases hc)
            refine .reg ?_
            refine .as ?_
            exact .nil fun aa w hf hs => ⟨(), trivial, hf.to (by repeat (first | exact trivial | refine ⟨rfl, ?_⟩)), hs⟩
          | false =>
            rw [hn (fun h5 => h5.2.elim (fun h1 => by omega) (fun h1 => by cases h1.2))]
            refine .cond rfl (fun hc => by cases hc) (fun hc => ?_)
            exact .skip fun aa w hf hs => ⟨(), trivial, hf.to (by repeat (first | exact trivial | refine ⟨rfl, ?_⟩)), hs⟩
        · rw [h', hn (by rintro ⟨_, h1 | h1⟩ <;> omega)]
          refine .mv ?_
          refine .gt ?_
          refine .mv ?_
          refine .mv ?_
          refine .lt ?_
          refine .mv ?_
          repeat refine .skip ?_
          first | refine .pt ?_ | refine .pf ?_
          first | refine .pt ?_ | refine .pf ?_
          first | refine .pt ?_ | refine .pf ?_
          refine .as ?_
          refine .go ?_
          refine .cond rfl (fun hc => by cases hc) (fun hc => ?_)
          exact .skip fun aa w hf hs => ⟨(), trivial, hf.to (by repeat (first | exact trivial | refine ⟨rfl, ?_⟩)), hs⟩
        · rw [h', hy ⟨h0, .inl h⟩]
          refine .mv ?_
          refine .gt ?_
          refine .mv ?_
          repeat refine .skip ?_
          first | refine .pt ?_ | refine .pf ?_
          first | refine .pt ?_ | refine .pf ?_
          refine .as ?_
          refine .go ?_
          refine .cond rfl (fun hc => ?_) (fun hc => by cases hc)
          refine .reg ?_
          refine .as ?_
          exact .nil fun aa w hf hs => ⟨(), trivial, hf.to (by repeat (first | exact trivial | refine ⟨rfl, ?_⟩)), hs⟩
  obtain ⟨x1, ha1, hq1, hp1⟩ := l3
  obtain ⟨x2, ha2, hq2, hp2⟩ := l4
  have hA1 := fun κ cs => acct_tr b E hwQ.hn (by have := hwQ.la; omega) i4 1 κ cs
  have hA2 := fun κ cs => acct_tr b E hwQ.hn (by have := hwQ.la; omega) i4 2 κ cs
  rw [ha1] at hA1
  rw [ha2] at hA2
  simp only [Option.getD_some, Option.isSome_some] at hA1 hA2
  refine .seq ?_
  refine .regD [(b8, 0, [ptrV b])] [] ?_
  refine .ld 0 ?_
  refine .pend ?_
  refine .al 6 ?_
  refine .cl 1 (fun F => of_tr 1 (by decide) κ _) ?_
  refine .cl 2 (fun F => Tr.efF3 F fun cs => hA1 κ cs) ?_
  refine .mv 3 ?_
  refine .ex 4 ?_
  refine .ex 5 ?_
  refine .com fun b14 => ?_
  refine .dn ?_
  have hx46 : (encA x1).length = 46 := encA_len _
  have hx1 : one (encA x1) = true := encA_one _
  have hy46 : (encA x2).length = 46 := encA_len _
  have hy1 : one (encA x2) = true := encA_one _
  refine .stw 7 (v := .agg (encA x1).toArray) ?_ (h := ⟨rfl, rfl, inferInstance, inferInstance, ⟨hx46, rfl⟩, hx1, rfl⟩)
  rw [vc_agg]
  refine .as 8 ?_
  refine .go ?_
  refine .seq ?_
  refine .sat (fun w hs => hs.pm 4 [1, 0, 2, 3]) ?_
  refine .regD [(b8, 0, [ptrV b])] [] ?_
  refine .ld 0 ?_
  refine .pend ?_
  refine .al 6 ?_
  refine .cl 1 (fun F => of_tr 2 (by decide) κ _) ?_
  refine .cl 2 (fun F => Tr.efF4 F fun cs => hA2 κ cs) ?_
  refine .mv 3 ?_
  refine .ex 4 ?_
  refine .ex 5 ?_
  refine .com fun b16 => ?_
  refine .dn ?_
  refine .stw 7 (v := .agg (encA x2).toArray) ?_ (h := ⟨rfl, rfl, inferInstance, inferInstance, ⟨hy46, rfl⟩, hy1, rfl⟩)
  rw [vc_agg]
  refine .as 8 ?_
  refine .go ?_
  refine .seq ?_
  refine .regD [(b3, 0, nm n)] [] ?_
  refine .bz 0 ?_
  refine .ldw 1 ?_
  refine .pend ?_
  refine .al 3 ?_
  refine .al 2 ?_
  refine .com fun b18 => ?_
  refine .com fun b19 => ?_
  refine .dn ?_
  refine .stw 4 (v := .agg (nm 0).toArray) ?_
  rw [vc_agg]
  refine .stw 5 (v := .agg (nm n).toArray) ?_
  rw [vc_agg]
  refine .go ?_
  have hH : stHeld tk vd n part = if stWant tk vd n part = 24 then n else 0 := rfl
  have hP : stPosted tk vd n part = if stWant tk vd n part = 0 ∧ vd = false then (if part = 0 then n else part) else 0 := rfl
  have hWc : stWant tk vd n part = 0 ∨ stWant tk vd n part = 23 ∨ stWant tk vd n part = 24 := by
    unfold stWant
    split
    · exact .inr (.inl rfl)
    · split
      · exact .inr (.inr rfl)
      · exact .inl rfl
  generalize stHeld tk vd n part = H at *
  generalize stPosted tk vd n part = B at *
  generalize stWant tk vd n part = W at *
  refine .jn (ι := Unit) (fun _ => [(6, .bool false), (8, .pointer (some ⟨b8, 0, none⟩)), (9, .func (.func 18) #[] #[.pointer (some ⟨b8, 0, none⟩)]), (10, .int .i64 (if vd then 8 else 4)), (11, .int .i64 W), (12, .int .i64 W), (14, .pointer (some ⟨b14, 0, none⟩)), (16, .pointer (some ⟨b16, 0, none⟩)), (18, .pointer (some ⟨b18, 0, none⟩)), (19, .pointer (some ⟨b19, 0, none⟩))])
    (fun _ => boxE b8 b :: pts b14 (37, encA x1) :: pts b16 (37, encA x2) :: pts b18 (24, nm B) :: pts b19 (24, nm (if W = 0 then 0 else n)) :: engO b E i4 cs) (fun _ => True) ?_ fun _ _ => ?_
  · refine .seq ?_
    refine .reg ?_
    refine .mv ?_
    refine .eq ?_
    refine .go ?_
    by_cases hW0 : W = 0
    · rw [decide_eq_true hW0, if_pos hW0]
      refine .cond rfl (fun hc => ?_) (fun hc => by cases hc)
      refine .seq ?_
      refine .reg ?_
      refine .bz ?_
      refine .stw (v := .agg (nm 0).toArray) ?_
      rw [vc_agg]
      refine .go ?_
      refine .seq ?_
      refine .reg ?_
      refine .mv ?_
      refine .eq ?_
      refine .go ?_
      cases vd with
      | true =>
        have hB : B = 0 := hP.trans (if_neg fun h => by cases h.2)
        rw [hB]
        refine .cond rfl (fun hc => by cases hc) (fun hc => ?_)
        exact .skip fun aa w hf hs => ⟨(), trivial, hf.to (by repeat (first | exact trivial | refine ⟨rfl, ?_⟩)), hs.pm 7 [3, 4, 2, 1, 0]⟩
      | false =>
        have hB : B = if part = 0 then n else part := hP.trans (if_pos ⟨hW0, rfl⟩)
        refine .cond rfl (fun hc => ?_) (fun hc => by cases hc)
        refine .seq ?_
        refine .reg ?_
        refine .ldw ?_
        refine .stw (v := .agg (nm part).toArray) ?_
        rw [vc_agg]
        refine .go ?_
        refine .seq ?_
        refine .reg ?_
        refine .ldw ?_
        refine .bz ?_
        refine .eqn part 0 ?_
        refine .go ?_
        by_cases hp0 : part = 0
        · rw [decide_eq_true hp0]
          rw [if_pos hp0] at hB
          rw [hB]
          refine .cond rfl (fun hc => ?_) (fun hc => by cases hc)
          refine .reg ?_
          refine .ldw ?_
          refine .stw (v := .agg (nm n).toArray) ?_
          rw [vc_agg]
          exact .nil fun aa w hf hs => ⟨(), trivial, hf.to (by repeat (first | exact trivial | refine ⟨rfl, ?_⟩)), hs.pm 7 [3, 4, 2, 1, 0]⟩
        · rw [decide_eq_false hp0]
          rw [if_neg hp0] at hB
          rw [hB]
          refine .cond rfl (fun hc => by cases hc) (fun hc => ?_)
          exact .skip fun aa w hf hs => ⟨(), trivial, hf.to (by repeat (first | exact trivial | refine ⟨rfl, ?_⟩)), hs.pm 7 [3, 4, 2, 1, 0]⟩
    · rw [decide_eq_false hW0, if_neg hW0]
      have hB : B = 0 := hP.trans (if_neg fun h => hW0 h.1)
      rw [hB]
      refine .cond rfl (fun hc => by cases hc) (fun hc => ?_)
      exact .skip fun aa w hf hs => ⟨(), trivial, hf.to (by repeat (first | exact trivial | refine ⟨rfl, ?_⟩)), hs.pm 7 [3, 4, 2, 1, 0]⟩
  refine .jn (ι := Unit) (fun _ => [(6, .bool false), (8, .pointer (some ⟨b8, 0, none⟩)), (9, .func (.func 18) #[] #[.pointer (some ⟨b8, 0, none⟩)]), (10, .int .i64 (if vd then 8 else 4)), (11, .int .i64 W), (12, .int .i64 W), (14, .pointer (some ⟨b14, 0, none⟩)), (16, .pointer (some ⟨b16, 0, none⟩)), (18, .pointer (some ⟨b18, 0, none⟩)), (19, .pointer (some ⟨b19, 0, none⟩))])
    (fun _ => boxE b8 b :: pts b14 (37, encA x1) :: pts b16 (37, encA x2) :: pts b18 (24, nm B) :: pts b19 (24, nm H) :: engO b E i4 cs) (fun _ => True) ?_ fun _ _ => ?_
  · refine .seq ?_
    refine .reg ?_
    refine .mv ?_
    refine .eq ?_
    refine .go ?_
    by_cases h23 : W = 23
    · rw [decide_eq_true h23]
      have hH0 : H = 0 := hH.trans (if_neg (by rw [h23]; decide))
      rw [hH0]
      refine .cond rfl (fun hc => ?_) (fun hc => by cases hc)
      refine .reg ?_
      refine .bz ?_
      refine .stw (v := .agg (nm 0).toArray) ?_
      rw [vc_agg]
      exact .nil fun aa w hf hs => ⟨(), trivial, hf.to (by repeat (first | exact trivial | refine ⟨rfl, ?_⟩)), hs⟩
    · rw [decide_eq_false h23]
      have hH1 : H = if W = 0 then 0 else n := by
        rcases hWc with h | h | h
        · rw [hH, if_neg (by rw [h]; decide), if_pos h]
        · exact absurd h h23
        · rw [hH, if_pos h, if_neg (by rw [h]; decide)]
      rw [← hH1]
      refine .cond rfl (fun hc => by cases hc) (fun hc => ?_)
      exact .skip fun aa w hf hs => ⟨(), trivial, hf.to (by repeat (first | exact trivial | refine ⟨rfl, ?_⟩)), hs⟩
  repeat refine .seq ?_
  refine .reg ?_
  refine .mv ?_
  refine .mv ?_
  refine .ne ?_
  rw [decide_eq_false (p := W ≠ W) (fun h => h rfl)]
  refine .mv ?_
  refine .fa ?_
  refine .ld (v := .agg (nm x1.dq).toArray) ?_
  refine .ldw ?_
  refine .nen x1.dq B ?_
  rw [decide_eq_true hq1]
  first | refine .pt ?_ | refine .pf ?_
  refine .mv ?_
  refine .fa ?_
  refine .ld (v := .agg (nm x2.cq).toArray) ?_
  refine .ldw ?_
  refine .nen x2.cq B ?_
  rw [decide_eq_true hq2]
  first | refine .pt ?_ | refine .pf ?_
  refine .mv ?_
  refine .fa ?_
  refine .ld (v := .agg (nm x1.dp).toArray) ?_
  refine .ldw ?_
  refine .nen x1.dp H ?_
  rw [decide_eq_true hp1]
  first | refine .pt ?_ | refine .pf ?_
  refine .mv ?_
  refine .fa ?_
  refine .ld (v := .agg (nm x2.cp).toArray) ?_
  refine .ldw ?_
  refine .nen x2.cp H ?_
  rw [decide_eq_true hp2]
  first | refine .pt ?_ | refine .pf ?_
  refine .go ?_
  refine .cond rfl (fun hc => by cases hc) (fun hc => ?_)
  refine .go ?_
  repeat refine .seq ?_
  refine .reg ?_
  refine .mv ?_
  refine .eq ?_
  refine .go ?_
  refine .sat (cs' := boxE b8 b :: engO b E i4 cs) (fun w hs => hs.pm 5 [0]) ?_
  by_cases hW0 : W = 0
  · rw [decide_eq_true hW0]
    obtain ⟨m1, m2⟩ := l5 hW0
    have hwR := do1_w hwQ (stS 3 1 0 vd)
    refine .cond rfl (fun hc => ?_) (fun hc => by cases hc)
    repeat refine .seq ?_
    refine .reg ?_
    refine .mv ?_
    refine .cl (of_tr 3 (by decide) κ _) ?_
    refine .cl (of_tr 1 (by decide) κ _) ?_
    refine .mv ?_
    refine .bd (r := encT (stS 3 1 0 vd)) ?_ ⟨inferInstance, inferInstance, rfl, by kernel_rfl⟩
    refine .ceV (fst := []) (cap := [.pointer (some ⟨b8, 0, none⟩)]) (vs := [.agg (encT (stS 3 1 0 vd)).toArray]) (doS_tr b b8 E i4 h4 (by omega) hwQ (stS 3 1 0 vd) κ hκ _) (fun i5 h5 => ?_)
    rw [m1]
    generalize (do1 E (stS 3 1 0 vd)).1 = E1 at *
    refine .eq ?_
    refine .mv ?_
    refine .mv ?_
    refine .cl (of_tr 3 (by decide) κ _) ?_
    refine .cl (of_tr 2 (by decide) κ _) ?_
    refine .mv ?_
    refine .bd (r := encT (stS 3 2 0 vd)) ?_ ⟨inferInstance, inferInstance, rfl, by kernel_rfl⟩
    refine .ceV (fst := []) (cap := [.pointer (some ⟨b8, 0, none⟩)]) (vs := [.agg (encT (stS 3 2 0 vd)).toArray]) (doS_tr b b8 E1 i5 h5 (by omega) hwR (stS 3 2 0 vd) κ hκ _) (fun i6 h6 => ?_)
    rw [m2]
    generalize (do1 E1 (stS 3 2 0 vd)).1 = E2 at *
    refine .eq ?_
    first | refine .pt ?_ | refine .pf ?_
    refine .as ?_
    refine .go ?_
    refine .r1 fun w hs => ?_
    exact ⟨rfl, eng_drop hs.rows⟩
  · rw [decide_eq_false hW0]
    have m1 := l6 hW0
    refine .cond rfl (fun hc => by cases hc) (fun hc => ?_)
    refine .go ?_
    repeat refine .seq ?_
    refine .reg ?_
    refine .mv ?_
    refine .cl (of_tr 3 (by decide) κ _) ?_
    refine .cl (of_tr 9 (by decide) κ _) ?_
    refine .mv ?_
    refine .bd (r := encT (stS 3 9 0 vd)) ?_ ⟨inferInstance, inferInstance, rfl, by kernel_rfl⟩
    refine .ceV (fst := []) (cap := [.pointer (some ⟨b8, 0, none⟩)]) (vs := [.agg (encT (stS 3 9 0 vd)).toArray]) (doS_tr b b8 E i4 h4 (by omega) hwQ (stS 3 9 0 vd) κ hκ _) (fun i5 h5 => ?_)
    rw [m1]
    generalize (do1 E (stS 3 9 0 vd)).1 = E1 at *
    refine .eq ?_
    refine .as ?_
    refine .go ?_
    refine .r1 fun w hs => ?_
    exact ⟨rfl, eng_drop hs.rows⟩
end Go.Proofs.YtpcechnalfaajaaDoor

/- The law EngineRefuses. -/
namespace Go.Proofs.YtpcechnalfaajaaDoor
open Go Go.Proofs

theorem alike_self (e : Eng) : alikeE e e = true := decide_eq_true ⟨rfl, rfl⟩
set_option maxHeartbeats 4000000 in
theorem refuses_tr (L : List Req) (p : Option Addr) (cap : Nat) (hcap : L.length ≤ cap) (kd : Int) (κ : Kap) (hκ : Laid κ) (hL : ReqsOk κ p L) (cs : List HProp) : Tr Tryd.prog 13 [.slice p L.length cap, .int .i64 kd] κ cs (.bool true) cs := by
  refine .enter Tryd.func13 rfl rfl ?_
  repeat refine .seq ?_
  refine .reg ?_
  refine .as ?_
  refine .go ?_
  repeat refine .seq ?_
  refine .reg ?_
  refine .cl (fit_tr κ hκ _) ?_
  refine .nt ?_
  refine .go ?_
  refine .cond rfl (fun hc => by cases hc) (fun hc => ?_)
  refine .go ?_
  repeat refine .seq ?_
  refine .reg ?_
  refine .mv ?_
  refine .cl (light_tr L p cap hcap κ hL _) ?_
  refine .nt ?_
  refine .go ?_
  refine .cond rfl (fun hc => ?_) (fun hc => ?_)
  · repeat refine .seq ?_
    refine .reg ?_
    refine .as ?_
    refine .go ?_
    refine .r1 fun w hs => ?_
    exact ⟨rfl, hs⟩
  have h60 := light_60 (show lightL L = true by simpa using hc)
  refine .go ?_
  repeat refine .seq ?_
  refine .reg ?_
  refine .ce (newO_tr κ _) (fun x hx => ?_)
  generalize x.1 = b at *
  generalize x.2 = i0 at *
  refine .as ?_
  refine .go ?_
  repeat refine .seq ?_
  refine .reg ?_
  refine .mv ?_
  refine .ln ?_
  refine .mv ?_
  refine .go ?_
  repeat refine .seq ?_
  refine .block ?_
  have hfr : ∀ q ∈ L, q.from_ ≤ 9223372036854775807 := fun q hq => (hL.fr q hq).2
  have hWk : ∀ k, k ≤ L.length → EngW 36600 (runL Eng.empty (L.take k)) := fun k hk => (runL_w empty_w (L.take k) (fun q hq => hfr q (List.mem_of_mem_take hq))).mono (by rw [List.length_take]; omega)
  refine .lp (fun x : Nat × EngI => [(0, .slice p L.length cap), (1, .int .i64 kd), (4, .bool false), (5, .pointer (some ⟨b, 0, none⟩)), (19, .slice p L.length cap), (20, .int .i64 L.length), (21, .int .i64 x.1)])
    (fun x => engO b (runL Eng.empty (L.take x.1)) x.2 cs) (fun x => x.1 ≤ L.length ∧ x.2.lb.length = (runL Eng.empty (L.take x.1)).rws.length) (fun x => L.length - x.1) (0, i0) ⟨Nat.zero_le _, hx⟩ (by repeat (first | exact trivial | refine ⟨rfl, ?_⟩)) rfl fun x hx => ?_
  obtain ⟨k, ik⟩ := x
  obtain ⟨hk, hik⟩ := hx
  simp only at hk hik
  refine .fra (fr' := [(0, .slice p L.length cap), (1, .int .i64 kd), (4, .bool false), (5, .pointer (some ⟨b, 0, none⟩)), (19, .slice p L.length cap), (20, .int .i64 L.length), (21, .int .i64 k)]) (by repeat (first | exact trivial | refine ⟨rfl, ?_⟩)) ?_
  refine .sat (cs' := engO b (runL Eng.empty (L.take k)) ik cs) (fun w hs => hs) ?_
  repeat refine .seq ?_
  refine .reg ?_
  refine .lt ?_
  refine .go ?_
  repeat refine .seq ?_
  refine .cond rfl (fun hc => ?_) (fun hc => ?_)
  · have hkl : k < L.length := by have : (k : Int) < L.length := of_decide_eq_true hc; omega
    have hmem := List.getElem_mem hkl
    have hrun := runL_take (e := Eng.empty) hkl
    rcases hL.rd with h | ⟨bl, o, rfl, hr⟩
    · exfalso
      have := congrArg List.length h
      rw [flat_len reqC 8 reqC_len] at this
      simp at this; omega
    refine .sat (cs' := isK κ :: engO b (runL Eng.empty (L.take k)) ik cs) (fun w hs => hs.isK) ?_
    haveI : RdAt bl (isK κ :: engO b (runL Eng.empty (L.take k)) ik cs) o (L.flatMap reqC) := .ofK hr
    refine .go ?_
    repeat refine .seq ?_
    refine .block ?_
    repeat refine .seq ?_
    refine .reg ?_
    refine .ix ?_
    refine .lx (req_get L k hkl) ?_
    have hWk0 := hWk k hk
    generalize runL Eng.empty (L.take k) = E at *
    generalize hq : L[k] = q at *
    refine .al fun b7 => ?_
    refine .stw (v := .agg (reqC q).toArray) ?_
    rw [vc_agg]
    refine .go ?_
    repeat refine .seq ?_
    refine .reg ?_
    refine .mv ?_
    refine .ldw ?_
    refine .cl (tame_tr q (hL.ac q hmem).2 (hL.tr q hmem).2 κ _) ?_
    refine .sat (cs' := engO b E ik cs) (fun w hs => hs.rows.rows) ?_
    refine .ce (applyQ_tr b E ik hik (by omega) hWk0 q κ hκ (hL.ac q hmem).1 (hL.tr q hmem).1 (hfr q hmem) _) (fun y hy => ?_)
    rw [← hrun] at hy
    refine .go ?_
    refine .reg ?_
    refine .ad ?_
    refine .mv ?_
    refine .nil fun aa w hf hs => ⟨(k + 1, y.1), ⟨hkl, hy⟩, by show L.length - (k + 1) < L.length - k; omega, hf.to (by repeat (first | exact trivial | refine ⟨rfl, ?_⟩)), ?_⟩
    show Sat κ w (engO b (runL Eng.empty (L.take (k + 1))) y.1 cs)
    rw [hrun]; exact hs
  have hkl : k = L.length := by have : ¬ (k : Int) < L.length := of_decide_eq_false hc; omega
  subst hkl
  have hW := hWk L.length (Nat.le_refl _)
  generalize runL Eng.empty (L.take L.length) = E at *
  refine .xgo ?_
  repeat refine .seq ?_
  refine .reg ?_
  refine .mv ?_
  refine .ce (ecopy_tr b E ik hik (by omega) hW κ _) (fun j hj => ?_)
  generalize j.1 = bw at *
  generalize j.2 = iw at *
  refine .sat (fun w hs => eng_swap hs) ?_
  refine .as ?_
  refine .go ?_
  refine .jn (ι := Int) (fun k' => [(0, .slice p L.length cap), (1, .int .i64 k'), (4, .bool false), (5, .pointer (some ⟨b, 0, none⟩)), (8, .pointer (some ⟨bw, 0, none⟩))]) (fun _ => engO b E ik (engO bw E iw cs)) (fun k' => k' ≠ 1 ∧ k' ≠ 2 ∧ k' ≠ 3) ?_ fun k' hk' => ?_
  · repeat refine .seq ?_
    refine .reg ?_
    refine .mv ?_
    refine .ge ?_
    refine .mv ?_
    by_cases h1 : (1 : Int) ≤ kd
    · rw [decide_eq_true h1]
      refine .mv ?_
      refine .le ?_
      by_cases h3 : kd ≤ 3
      · rw [decide_eq_true h3]
        first | refine .pt ?_ | refine .pf ?_
        refine .go ?_
        refine .cond rfl (fun hc => ?_) (fun hc => by cases hc)
        refine .reg ?_
        refine .as ?_
        exact .nil fun aa w hf hs => ⟨0, by decide, hf.to (by repeat (first | exact trivial | refine ⟨rfl, ?_⟩)), hs⟩
      · rw [decide_eq_false h3]
        first | refine .pt ?_ | refine .pf ?_
        refine .go ?_
        refine .cond rfl (fun hc => by cases hc) (fun hc => ?_)
        exact .skip fun aa w hf hs => ⟨kd, by omega, hf.to (by repeat (first | exact trivial | refine ⟨rfl, ?_⟩)), hs⟩
    · rw [decide_eq_false h1]
      repeat refine .skip ?_
      first | refine .pt ?_ | refine .pf ?_
      refine .go ?_
      refine .cond rfl (fun hc => by cases hc) (fun hc => ?_)
      exact .skip fun aa w hf hs => ⟨kd, by omega, hf.to (by repeat (first | exact trivial | refine ⟨rfl, ?_⟩)), hs⟩
  repeat refine .seq ?_
  refine .reg ?_
  refine .mv ?_
  refine .mv ?_
  refine .mv ?_
  refine .cl (nowE_tr b E ik κ _) ?_
  refine .adw ?_
  refine .bd (r := reqC (kindR k' (addK .i64 E.now 5))) ?_ ⟨inferInstance, inferInstance, rfl, by kernel_rfl⟩
  refine .ce (refuse_tr b E ik hik (by omega) hW k' (addK .i64 E.now 5) (wrap_le _).2 ⟨hk'.1, hk'.2.1, fun h => hk'.2.2 h.1⟩ κ hκ _) (fun y hy => ?_)
  generalize y.1 = i2 at *
  generalize y.2.1 = p2
  generalize y.2.2 = c2
  refine .mv ?_
  refine .ex ?_
  refine .ex ?_
  refine .as ?_
  refine .as ?_
  refine .go ?_
  repeat refine .seq ?_
  refine .reg ?_
  refine .mv ?_
  refine .mv ?_
  refine .cl (nowE_tr b E i2 κ _) ?_
  refine .bd (r := reqC (kindR 3 E.now)) ?_ ⟨inferInstance, inferInstance, rfl, by kernel_rfl⟩
  refine .ce (refuse_tr b E i2 hy (by omega) hW 3 E.now hW.hnow.2 ⟨by decide, by decide, fun h => Int.lt_irrefl _ h.2⟩ κ hκ _) (fun z hz => ?_)
  generalize z.1 = i3 at *
  generalize z.2.1 = p3
  generalize z.2.2 = c3
  refine .mv ?_
  refine .ex ?_
  refine .ex ?_
  refine .as ?_
  refine .as ?_
  refine .go ?_
  repeat refine .seq ?_
  refine .reg ?_
  refine .mv ?_
  refine .eq ?_
  refine .mv ?_
  refine .mv ?_
  refine .eq ?_
  first | refine .pt ?_ | refine .pf ?_
  refine .mv ?_
  refine .mv ?_
  refine .ln ?_
  refine .mv ?_
  refine .ln ?_
  refine .ad ?_
  refine .eq ?_
  first | refine .pt ?_ | refine .pf ?_
  refine .mv ?_
  refine .mv ?_
  refine .mv ?_
  refine .cl (alike_tr b bw E E i3 iw hW hW κ _) ?_
  rw [alike_self]
  first | refine .pt ?_ | refine .pf ?_
  refine .as ?_
  refine .go ?_
  refine .r1 fun w hs => ?_
  exact ⟨rfl, eng_drop (eng_drop hs)⟩
end Go.Proofs.YtpcechnalfaajaaDoor

/- The law EngineSums. -/
namespace Go.Proofs.YtpcechnalfaajaaDoor
open Go Go.Proofs

set_option maxHeartbeats 4000000 in
theorem esums_tr (L : List Req) (p : Option Addr) (cap : Nat) (hcap : L.length ≤ cap) (κ : Kap) (hκ : Laid κ) (hL : ReqsOk κ p L) (cs : List HProp) : Tr Tryd.prog 9 [.slice p L.length cap] κ cs (.bool true) cs := by
  refine .enter Tryd.func9 rfl rfl ?_
  repeat refine .seq ?_
  refine .reg ?_
  refine .as ?_
  refine .go ?_
  repeat refine .seq ?_
  refine .reg ?_
  refine .cl (fit_tr κ hκ _) ?_
  refine .nt ?_
  refine .go ?_
  refine .cond rfl (fun hc => by cases hc) (fun hc => ?_)
  refine .go ?_
  repeat refine .seq ?_
  refine .reg ?_
  refine .mv ?_
  refine .cl (light_tr L p cap hcap κ hL _) ?_
  refine .nt ?_
  refine .go ?_
  refine .cond rfl (fun hc => ?_) (fun hc => ?_)
  · repeat refine .seq ?_
    refine .reg ?_
    refine .as ?_
    refine .go ?_
    refine .r1 fun w hs => ?_
    exact ⟨rfl, hs⟩
  have h60 := light_60 (show lightL L = true by simpa using hc)
  refine .go ?_
  repeat refine .seq ?_
  refine .reg ?_
  refine .ce (newO_tr κ _) (fun x hx => ?_)
  generalize x.1 = b at *
  generalize x.2 = i0 at *
  refine .as ?_
  refine .go ?_
  repeat refine .seq ?_
  refine .reg ?_
  refine .mv ?_
  refine .ln ?_
  refine .mv ?_
  refine .go ?_
  repeat refine .seq ?_
  refine .block ?_
  have hfr : ∀ q ∈ L, q.from_ ≤ 9223372036854775807 := fun q hq => (hL.fr q hq).2
  have hWk : ∀ k, k ≤ L.length → EngW 36600 (runL Eng.empty (L.take k)) := fun k hk => (runL_w empty_w (L.take k) (fun q hq => hfr q (List.mem_of_mem_take hq))).mono (by rw [List.length_take]; omega)
  have hSk : ∀ k, ∃ H, EngS (runL Eng.empty (L.take k)) H := fun k => sums_run (L.take k) empty_w ⟨[], sums_empty⟩ (fun q hq => hfr q (List.mem_of_mem_take hq))
  refine .lp (fun x : Nat × EngI => [(2, .bool false), (3, .pointer (some ⟨b, 0, none⟩)), (12, .slice p L.length cap), (13, .int .i64 L.length), (14, .int .i64 x.1)])
    (fun x => engO b (runL Eng.empty (L.take x.1)) x.2 cs) (fun x => x.1 ≤ L.length ∧ x.2.lb.length = (runL Eng.empty (L.take x.1)).rws.length) (fun x => L.length - x.1) (0, i0) ⟨Nat.zero_le _, hx⟩ (by repeat (first | exact trivial | refine ⟨rfl, ?_⟩)) rfl fun x hx => ?_
  obtain ⟨k, ik⟩ := x
  obtain ⟨hk, hik⟩ := hx
  simp only at hk hik
  refine .fra (fr' := [(2, .bool false), (3, .pointer (some ⟨b, 0, none⟩)), (12, .slice p L.length cap), (13, .int .i64 L.length), (14, .int .i64 k)]) (by repeat (first | exact trivial | refine ⟨rfl, ?_⟩)) ?_
  refine .sat (cs' := engO b (runL Eng.empty (L.take k)) ik cs) (fun w hs => hs) ?_
  repeat refine .seq ?_
  refine .reg ?_
  refine .lt ?_
  refine .go ?_
  repeat refine .seq ?_
  refine .cond rfl (fun hc => ?_) (fun hc => ?_)
  · have hkl : k < L.length := by have : (k : Int) < L.length := of_decide_eq_true hc; omega
    have hmem := List.getElem_mem hkl
    have hrun := runL_take (e := Eng.empty) hkl
    rcases hL.rd with h | ⟨bl, o, rfl, hr⟩
    · exfalso
      have := congrArg List.length h
      rw [flat_len reqC 8 reqC_len] at this
      simp at this; omega
    refine .sat (cs' := isK κ :: engO b (runL Eng.empty (L.take k)) ik cs) (fun w hs => hs.isK) ?_
    haveI : RdAt bl (isK κ :: engO b (runL Eng.empty (L.take k)) ik cs) o (L.flatMap reqC) := .ofK hr
    refine .go ?_
    repeat refine .seq ?_
    refine .block ?_
    repeat refine .seq ?_
    refine .reg ?_
    refine .ix ?_
    refine .lx (req_get L k hkl) ?_
    have hWk0 := hWk k hk
    have hWk1 := hWk (k + 1) hkl
    have hSk1 := hSk (k + 1)
    rw [hrun] at hWk1 hSk1
    generalize runL Eng.empty (L.take k) = E at *
    generalize hq : L[k] = q at *
    refine .al fun b5 => ?_
    refine .stw (v := .agg (reqC q).toArray) ?_
    rw [vc_agg]
    refine .go ?_
    repeat refine .seq ?_
    refine .reg ?_
    refine .mv ?_
    refine .ldw ?_
    refine .cl (tame_tr q (hL.ac q hmem).2 (hL.tr q hmem).2 κ _) ?_
    refine .sat (cs' := engO b E ik cs) (fun w hs => hs.rows.rows) ?_
    refine .ce (applyQ_tr b E ik hik (by omega) hWk0 q κ hκ (hL.ac q hmem).1 (hL.tr q hmem).1 (hfr q hmem) _) (fun y hy => ?_)
    refine .go ?_
    repeat refine .seq ?_
    refine .reg ?_
    refine .mv ?_
    have hlaw := sums_law hWk1 hSk1
    have hidx := hWk1.idx
    refine .ce (accounts_tr b (E.apply (tameR q)).1.1 y.1 hidx.1 hidx.2 κ cs) (fun j hj => ?_)
    refine .cl (sums_tr (E.apply (tameR q)).1.1.accounts hlaw.2 hlaw.1 j.1 j.2 κ _) ?_
    refine .nt ?_
    refine .go ?_
    refine .cond rfl (fun hc => by cases hc) (fun hc => ?_)
    rw [← hrun] at hy
    refine .go ?_
    refine .reg ?_
    refine .ad ?_
    refine .mv ?_
    refine .nil fun aa w hf hs => ⟨(k + 1, y.1), ⟨hkl, hy⟩, by show L.length - (k + 1) < L.length - k; omega, hf.to (by repeat (first | exact trivial | refine ⟨rfl, ?_⟩)), ?_⟩
    show Sat κ w (engO b (runL Eng.empty (L.take (k + 1))) y.1 cs)
    rw [hrun]; exact hs
  have hkl : k = L.length := by have : ¬ (k : Int) < L.length := of_decide_eq_false hc; omega
  subst hkl
  refine .xgo ?_
  repeat refine .seq ?_
  refine .reg ?_
  refine .as ?_
  refine .go ?_
  refine .r1 fun w hs => ?_
  exact ⟨rfl, eng_drop hs⟩
end Go.Proofs.YtpcechnalfaajaaDoor

/- EngineSums: the row and the card. -/
namespace Go.Proofs.YtpcechnalfaajaaDoor
open Go Go.Proofs Go.ChangeShapes Go.WideShapes Go.ChangeAt Go.WideMaps Go.WideElems Go.RowKit

set_option maxRecDepth 100000 in
theorem engineSums_lifted (os : Os) (started : os.Started) (H : Type) (enc : TypeId × Value → H) :
    ReturnsInHanded {} Tryd.checked os 9 .any (fun w args => (Rows.engineSumsSpec.pre enc Tryd.prog Tryd.f9 [] false w args ∧ laidMetH Tryd.prog laid4 w) ∧ sizedMet enc Tryd.prog Tryd.f9 (OpenSpec.ofChange Rows.engineSumsSpec) false w args)
      (Rows.engineSumsSpec.post enc Tryd.prog Tryd.f9 false true false false) := by
  refine returnsInHanded_of_change_and (C := Tryd.checked) (X := fun w _ => laidMetH Tryd.prog laid4 w) (fun _ _ _ hh h => h.of_heap hh) own started (by kernel_rfl) Tryd.func9
    (ChangeSpec.witness_shaped (enc := enc) (C := Tryd.checked) (os := os) (X := fun w _ => laidMetH Tryd.prog laid4 w) false (World.doorLaid Tryd.prog 4000 os) #[.slice none 0 0] 8 rfl (World.shaped_of_RefB (by kernel_rfl) (by kernel_rfl)) (by kernel_rfl) (by kernel_rfl) (by kernel_rfl) (door_met os _)) ?_
  intro W base args ds gs before hval0 hW _ _ hL _
  have hval : ∀ (j : Nat) t v, (Tryd.f9).params[j]? = some t → args[j]? = some v → Value.okWide Tryd.prog W .any base t v := hval0
  have hW' := hW
  obtain ⟨p, q, hA0, hV, rfl, hfz, hnd⟩ := hW
  have hA : DataW.TrodAll enc Tryd.prog W 0 (fun _ => true) true (Tryd.f9).params.toList args.toList ds p := hA0
  rw [Tryd.params9] at hA hval
  obtain ⟨v0, d0, rfl, rfl, h0⟩ := trodAll_one hA
  obtain ⟨L_p, L, L_c, rfl, L_h, L_k⟩ := reqs_of (hval 0 _ _ rfl rfl) h0
  refine (esums_tr L L_p L_c L_h (kapOf W) (of_laid hL) L_k [] W (sat_of W)).mono fun e W' ⟨he, hs⟩ => ?_
  subst he
  refine ⟨_, rfl, post_true (tb := 4) laidOut hW' rfl rfl (below_of hs) ?_ (by kernel_rfl) (by kernel_rfl)⟩
  rw [Tryd.params9]
  intro t ht
  have hall : ([62].all fun u => Tryd.prog.readableRec u && decide (u < Tryd.prog.types.size)) = true := by kernel_rfl
  have h5 := List.all_eq_true.1 hall t ht
  rw [Bool.and_eq_true] at h5
  exact ⟨h5.1, of_decide_eq_true h5.2⟩
theorem engineSums_holds : Rows.EngineSumsSaid :=
  OpenClaim.holds_of_wide 9 Tryd.f9 rfl rfl rfl rfl rfl rfl rfl ⟨rfl, rfl, rfl, rfl, rfl⟩ rfl rfl rfl rfl rfl (by kernel_rfl) Tryd.func9 (by kernel_rfl)
    (of_decide_eq_true (by kernel_rfl)) (by unfold Func.isWrapper; first | (rw [if_pos (by decide +kernel)]; kernel_rfl) | (rw [if_neg (by decide +kernel)]; exact ⟨rfl, rfl⟩))
    (fun os started H enc _ => engineSums_lifted os started H enc)
theorem engineSumsCard_holds : Rows.EngineSumsCardSaid :=
  Claim7.holds_tied_plain_at .later [] [.data, .data, .widerDeep, .widerDeep] true (true, "de20976bb9abc0c7ddf704fc18d7d4f424036e793db8338a9ccbe2b467d619fd") false
    engineSums_holds (fun _ h => by cases h) (by kernel_rfl) (fun _ h => by cases h) engineSums_row_tie rfl ⟨rfl, rfl⟩ (by kernel_rfl) rfl
    (fun f fn hf hfn => by
      obtain rfl : f = 9 := Option.some.inj ((show Tryd.prog.funcNamed "pacioli/paciolilaw11.EngineSums" = some 9 by kernel_rfl).symm.trans hf) |>.symm
      obtain rfl : fn = Tryd.f9 := (Option.some.inj (Tryd.func9.symm.trans hfn)).symm
      exact ⟨by kernel_rfl, fun j t ht => by
        rw [Tryd.params9] at ht
        have hm : t ∈ [62] := by simpa using Array.mem_of_getElem? ht
        have hall : ([62].all fun u => !Tryd.prog.wantsStandIn u) = true := by kernel_rfl
        exact (show Tryd.prog.wantsStandIn t = false by simpa using List.all_eq_true.1 hall t hm)⟩)
    (by kernel_rfl)
#print axioms engineSumsCard_holds
end Go.Proofs.YtpcechnalfaajaaDoor
