/- EngineWaits returns true whatever timeouts and time it is given: a tick ends just what waited too long, in the order in which it was made. Conditions: the laid package variables of sha and history hold what their own initialisers give them. -/
import Derived.Test.YtpcechnalfaajaaDoorP9
import Derived.Test.YtpcechnalfaajaaDoorP8
import Derived.Test.YtpcechnalfaajaaDoorTie
import Derived.Test.YtpcechnalfaajaaDoorCards
import Derived.SevenTiedAt
/- Lists of transfers and of numbers, read out of the call's memory. -/
namespace Go.Proofs.YtpcechnalfaajaaDoor
open Go Go.Proofs Go.ChangeShapes Go.WideShapes Go.ChangeAt Go.WideMaps Go.WideElems Go.RowKit

section
variable {H : Type} {enc : TypeId × Value → H} {W : World} {base : Nat} {spare : Nat → Bool} {held : Bool}
set_option maxRecDepth 100000 in
theorem trs_of {w : World} {r : Reach} {b0 : Nat} {v : Value} {d : DataW H} {p : List MemPlace} (hv : Value.okWide Tryd.prog w r b0 39 v) (h : DataW.Trod enc Tryd.prog W base spare held 39 v d p) :
    ∃ (q : Option Addr) (L : List Transfer) (cap : Nat), v = .slice q L.length cap ∧ L.length ≤ cap ∧ RdK (kapOf W) q (L.flatMap encT) := by
  obtain ⟨fuel, hf⟩ := h
  obtain ⟨q, L, cap, e, hl, _, _, hr⟩ := slice_of (encE := encT) (m := 16) encT_len (by decide) (e := 43) (by kernel_rfl) (by kernel_rfl) tra_dec hf
  obtain ⟨p', n', c', rfl⟩ := slice_of_ok (e := 43) (by kernel_rfl) hv
  have hv' : Value.slice p' n' c' = .slice q L.length cap := by simpa [Value.cells] using e
  exact ⟨q, L, cap, hv', hl, hr⟩
theorem int_dec (n : Nat) (cs : List Value) (x : DataW H × List MemPlace) (h : DataW.trod enc Tryd.prog W base spare held n 3 cs = some x) : ∃ a : Int, (-9223372036854775808 ≤ a ∧ a ≤ 9223372036854775807) ∧ cs = [.int .i64 a] := by
  obtain ⟨z, h1, _, h2⟩ := DataW.trod_int (k := .i64) (by kernel_rfl) h
  have h2 : IntKind.i64.min ≤ z ∧ z ≤ IntKind.i64.max := by simpa [Lit.wf] using h2
  exact ⟨z, in64 h2, h1⟩
set_option maxRecDepth 100000 in
theorem ints_of {w : World} {r : Reach} {b0 : Nat} {v : Value} {d : DataW H} {p : List MemPlace} (hv : Value.okWide Tryd.prog w r b0 69 v) (h : DataW.Trod enc Tryd.prog W base spare held 69 v d p) :
    ∃ (q : Option Addr) (L : List Int) (cap : Nat), v = .slice q L.length cap ∧ L.length ≤ cap ∧ RdK (kapOf W) q (L.flatMap fun z => [.int .i64 z]) := by
  obtain ⟨fuel, hf⟩ := h
  obtain ⟨q, L, cap, e, hl, _, _, hr⟩ := slice_of (encE := fun z : Int => [Value.int .i64 z]) (m := 1) (fun _ => rfl) (by decide) (e := 3) (by kernel_rfl) (by kernel_rfl) int_dec hf
  obtain ⟨p', n', c', rfl⟩ := slice_of_ok (e := 3) (by kernel_rfl) hv
  have hv' : Value.slice p' n' c' = .slice q L.length cap := by simpa [Value.cells] using e
  exact ⟨q, L, cap, hv', hl, hr⟩
end
end Go.Proofs.YtpcechnalfaajaaDoor

/- EngineSteps' plain law. -/
namespace Go.Proofs.YtpcechnalfaajaaDoor
open Go Go.Proofs

def stT (n : Num) : Transfer := ⟨1, 1, 2, n, 0, 5, 1, 2, 0, 0, 0⟩
def stS (id pid part : Num) (void : Bool) : Transfer := ⟨id, 0, 0, part, pid, 0, 0, if void then 8 else 4, 0, 0, 0⟩
def stE1 (n : Num) (w1 w2 : Int) (h1 h2 : Hash) (s : Row) : Eng :=
  Two ⟨1, 1, 0, n, 0, 0, 0, 1, w1, h1⟩ ⟨2, 1, 0, 0, 0, n, 0, 2, w2, h2⟩ [{ stT n with time := 3, state := 1 }] [⟨1, 3, 2, n, n, 0, 0, 0⟩] [s] 3 0
theorem steps_one (n : Num) : ∃ w1 w2 h1 h2 s, do1 two0 (stT n) = (stE1 n w1 w2 h1 h2 s, 0) := by
  obtain ⟨z1, z2, z3, z4⟩ := addN_zero n
  have a1 : addN [acc1.dp, n] = n := z1
  have a2 : addN [acc2.cp, n] = n := z1
  have hf := first_pend acc1 acc2 [] [] [] 2 0 (stT n) n (by kernel_rfl) (by kernel_rfl) z3 z3 (by rw [a1]; exact z4) (by rw [a2]; exact z4) (within0 (by kernel_rfl) (by kernel_rfl)) (within0 (by kernel_rfl) (by kernel_rfl))
  rw [a1, a2] at hf
  have c1 : firC (stT n) 64 { acc1 with dp := n } = { acc1 with dp := n } := by kernel_rfl
  have c2 : firC (stT n) 128 { acc2 with cp := n } = { acc2 with cp := n } := by kernel_rfl
  rw [c1, c2, add_two] at hf
  have hm : two0.makeTransfer (stT n) = two0.first (stT n) 0 1 := by kernel_rfl
  rw [do1_eq (by kernel_rfl), hm, show two0.first (stT n) 0 1 = _ from hf, if_pos rfl]
  exact ⟨1, 1, rootN ([rowOf 1 3 (bclr (stT n).flags 1) n { acc1 with dp := n }].map leafR), rootN ([rowOf 1 3 (bclr (stT n).flags 1) n { acc2 with cp := n }].map leafR), rowOf 1 3 (bclr (stT n).flags 1) n { acc2 with cp := n }, by kernel_rfl⟩
/-- What a tick at 5 does. -/
def stE2 (n : Num) (w1 w2 : Int) (h1 h2 : Hash) (r2 s s2 : Row) : Eng :=
  Two ⟨1, 1, 0, 0, 0, 0, 0, 1, w1, h1⟩ ⟨2, 1, 0, 0, 0, 0, 0, 2, w2, h2⟩ [{ stT n with time := 3, state := 4 }] [⟨1, 3, 2, n, n, 0, 0, 0⟩, r2] [s, s2] 4 5
theorem steps_tick (n : Num) (w1 w2 : Int) (h1 h2 : Hash) (s : Row) : ∃ v1 v2 g1 g2 r2 s2, (stE1 n w1 w2 h1 h2 s).tick 5 = stE2 n v1 v2 g1 g2 r2 s s2 := by
  have hz := subN_self n
  have hr := release_two ⟨1, 1, 0, n, 0, 0, 0, 1, w1, h1⟩ ⟨2, 1, 0, 0, 0, n, 0, 2, w2, h2⟩ [{ stT n with time := 3, state := 1 }] [⟨1, 3, 2, n, n, 0, 0, 0⟩] [s] 3 5 { stT n with time := 3, state := 1 } n true
  have f1 : ¬ (true = true ∧ band ({ stT n with time := 3, state := 1 } : Transfer).flags 64 ≠ 0) := fun h => h.2 (by kernel_rfl)
  have f2 : ¬ (true = true ∧ band ({ stT n with time := 3, state := 1 } : Transfer).flags 128 ≠ 0) := fun h => h.2 (by kernel_rfl)
  rw [if_neg f1, if_neg f2, hz] at hr
  have ht : (stE1 n w1 w2 h1 h2 s).tick 5 = ({ ((Two ⟨1, 1, 0, n, 0, 0, 0, 1, w1, h1⟩ ⟨2, 1, 0, 0, 0, n, 0, 2, w2, h2⟩ [{ stT n with time := 3, state := 1 }] [⟨1, 3, 2, n, n, 0, 0, 0⟩] [s] 3 5).release { stT n with time := 3, state := 1 } n 0 1 true).setState 0 4 with time := 4 } : Eng).row 1 (-1) n [0, 1] := by kernel_rfl
  rw [ht, hr]
  exact ⟨2, _, rootN (([⟨1, 3, 2, n, n, 0, 0, 0⟩, rowOf 1 4 (-1) n ⟨1, 1, 0, 0, 0, 0, 0, 1, w1, h1⟩] : List Row).map leafR), rootN (([s, rowOf 1 4 (-1) n ⟨2, 1, 0, 0, 0, 0, 0, 2, w2, h2⟩] : List Row).map leafR), rowOf 1 4 (-1) n ⟨1, 1, 0, 0, 0, 0, 0, 1, w1, h1⟩, rowOf 1 4 (-1) n ⟨2, 1, 0, 0, 0, 0, 0, 2, w2, h2⟩, rfl⟩
def stWant (tick void : Bool) (n part : Num) : Int := if tick = true then 23 else if part ≠ 0 ∧ (n.toNat < part.toNat ∨ (part.toNat < n.toNat ∧ void = true)) then 24 else 0
def stPre (tick : Bool) (n : Num) : Eng := if tick = true then (do1 two0 (stT n)).1.tick 5 else (do1 two0 (stT n)).1
def stPosted (tick void : Bool) (n part : Num) : Num := if stWant tick void n part = 0 ∧ void = false then (if part = 0 then n else part) else 0
def stHeld (tick void : Bool) (n part : Num) : Num := if stWant tick void n part = 24 then n else 0
theorem two_account1 {x y : Account} {T : List Transfer} {ra rb : List Row} {tm now : Int} (hx : x.id = 1) : (Two x y T ra rb tm now).account 1 = some x := by
  unfold Eng.account
  have : posN 1 (Two x y T ra rb tm now).ids = some 0 := if_pos hx
  rw [this]; rfl
theorem two_account2 {x y : Account} {T : List Transfer} {ra rb : List Row} {tm now : Int} (hx : x.id = 1) (hy : y.id = 2) : (Two x y T ra rb tm now).account 2 = some y := by
  unfold Eng.account
  have : posN 2 (Two x y T ra rb tm now).ids = some 1 := by
    show (if x.id = 2 then some 0 else (if y.id = 2 then some 0 else none).map (· + 1)) = some 1
    rw [if_neg (by rw [hx]; decide), if_pos hy]; rfl
  rw [this]; rfl
theorem do1_code {e : Eng} {t : Transfer} {c : Int} (h : band t.flags 1 = 0) (hc : (e.makeTransfer t).2 = c) : (do1 e t).2 = c := by
  rw [do1_eq h, hc]
  split
  · rename_i h; exact h.symm
  · rfl
theorem steps_end (E : Eng) (void : Bool) (h1 : (E.makeTransfer (stS 3 1 0 void)).2 = 22) (h2 : (E.makeTransfer (stS 3 2 0 void)).2 = 21) : (do1 E (stS 3 1 0 void)).2 = 22 ∧ (do1 (do1 E (stS 3 1 0 void)).1 (stS 3 2 0 void)).2 = 21 := by
  have hv1 : ∀ id pid p, band (stS id pid p void).flags 1 = 0 := fun id pid p => by cases void <;> kernel_rfl
  have e1 := do1_bad (hv1 3 1 0) h1 (by decide)
  rw [e1]
  exact ⟨rfl, do1_code (hv1 3 2 0) h2⟩
theorem steps_law (tick void : Bool) (n part : Num) : (do1 two0 (stT n)).2 = 0 ∧ (do1 (stPre tick n) (stS 2 1 part void)).2 = stWant tick void n part ∧
    (∃ a, (do1 (stPre tick n) (stS 2 1 part void)).1.account 1 = some a ∧ a.dq = stPosted tick void n part ∧ a.dp = stHeld tick void n part) ∧
    (∃ a, (do1 (stPre tick n) (stS 2 1 part void)).1.account 2 = some a ∧ a.cq = stPosted tick void n part ∧ a.cp = stHeld tick void n part) ∧
    (stWant tick void n part = 0 → (do1 (do1 (stPre tick n) (stS 2 1 part void)).1 (stS 3 1 0 void)).2 = 22 ∧ (do1 (do1 (do1 (stPre tick n) (stS 2 1 part void)).1 (stS 3 1 0 void)).1 (stS 3 2 0 void)).2 = 21) ∧
    (stWant tick void n part ≠ 0 → (do1 (do1 (stPre tick n) (stS 2 1 part void)).1 (stS 3 9 0 void)).2 = 20) := by
  obtain ⟨w1, w2, h1, h2, s, e1⟩ := steps_one n
  have hv1 : ∀ id pid p, band (stS id pid p void).flags 1 = 0 := fun id pid p => by cases void <;> kernel_rfl
  refine ⟨by rw [e1], ?_⟩
  cases tick with
  | true =>
    obtain ⟨v1, v2, g1, g2, r2, s2, e2⟩ := steps_tick n w1 w2 h1 h2 s
    have hpre : stPre true n = stE2 n v1 v2 g1 g2 r2 s s2 := by unfold stPre; rw [if_pos rfl, e1]; exact e2
    have hw : stWant true void n part = 23 := if_pos rfl
    have hp : stPosted true void n part = 0 := if_neg (by rw [hw]; intro h; cases h.1)
    have hh : stHeld true void n part = 0 := if_neg (by rw [hw]; decide)
    rw [hpre, hw, hp, hh]
    have e3 : do1 (stE2 n v1 v2 g1 g2 r2 s s2) (stS 2 1 part void) = (stE2 n v1 v2 g1 g2 r2 s s2, 23) := do1_bad (hv1 _ _ _) (by cases void <;> kernel_rfl) (by decide)
    rw [e3]
    exact ⟨rfl, ⟨⟨1, 1, 0, 0, 0, 0, 0, 1, v1, g1⟩, by kernel_rfl, rfl, rfl⟩, ⟨⟨2, 1, 0, 0, 0, 0, 0, 2, v2, g2⟩, by kernel_rfl, rfl, rfl⟩, fun h => absurd h (by decide), fun _ => do1_code (hv1 _ _ _) (by cases void <;> kernel_rfl)⟩
  | false =>
    have hpre : stPre false n = stE1 n w1 w2 h1 h2 s := by unfold stPre; rw [if_neg (by decide), e1]
    rw [hpre]
    have hm : (stE1 n w1 w2 h1 h2 s).makeTransfer (stS 2 1 part void) = (stE1 n w1 w2 h1 h2 s).second (stS 2 1 part void) := by cases void <;> kernel_rfl
    have hs := second_some (e := stE1 n w1 w2 h1 h2 s) (t := stS 2 1 part void) (p := { stT n with time := 3, state := 1 }) (k := 0) (held := n) (by kernel_rfl) (by kernel_rfl) (by kernel_rfl)
    have hN : secN (stS 2 1 part void) n = if part = 0 then n else part := rfl
    have hb8 : band (stS 2 1 part void).flags 8 ≠ 0 ↔ void = true := by cases void with
      | true => exact ⟨fun _ => rfl, fun _ => of_decide_eq_true (by kernel_rfl)⟩
      | false => exact ⟨fun h => absurd (show band (stS 2 1 part false).flags 8 = 0 by kernel_rfl) h, fun h => by cases h⟩
    have hE : secE (stS 2 1 part void) { stT n with time := 3, state := 1 } n = stWant false void n part := by
      have h24 : (n.toNat < (secN (stS 2 1 part void) n).toNat ∨ ((secN (stS 2 1 part void) n).toNat < n.toNat ∧ band (stS 2 1 part void).flags 8 ≠ 0)) ↔ (part ≠ 0 ∧ (n.toNat < part.toNat ∨ (part.toNat < n.toNat ∧ void = true))) := by
        rw [hN, hb8]
        by_cases h0 : part = 0
        · rw [if_pos h0]
          constructor
          · intro h; exfalso; rcases h with h | h <;> omega
          · intro h; exact absurd h0 h.1
        · rw [if_neg h0]
          exact ⟨fun h => ⟨h0, h⟩, fun h => h.2⟩
      unfold secE stWant
      rw [if_neg (show ¬ band (stT n).flags 2 = 0 from fun h => absurd (h.symm.trans (show band (stT n).flags 2 = 2 by kernel_rfl)) (by decide)), if_neg (show ¬ ((1 : Int) = 2 ∨ (1 : Int) = 3) by decide), if_neg (show ¬ (1 : Int) = 4 by decide), if_neg (by rw [show mis (stS 2 1 part void) { stT n with time := 3, state := 1 } = false from by cases void <;> kernel_rfl]; simp), if_neg (by decide : ¬ false = true)]
      simp only [h24]
    rw [hE] at hs
    by_cases hc : part ≠ 0 ∧ (n.toNat < part.toNat ∨ (part.toNat < n.toNat ∧ void = true))
    · have hw : stWant false void n part = 24 := (if_neg (by decide)).trans (if_pos hc)
      have hp : stPosted false void n part = 0 := if_neg (by rw [hw]; intro h; cases h.1)
      have hh : stHeld false void n part = n := if_pos hw
      rw [hw, if_pos (by decide)] at hs
      rw [hw, hp, hh]
      have e3 : do1 (stE1 n w1 w2 h1 h2 s) (stS 2 1 part void) = (stE1 n w1 w2 h1 h2 s, 24) := do1_bad (hv1 _ _ _) (by rw [hm, hs]) (by decide)
      rw [e3]
      exact ⟨rfl, ⟨⟨1, 1, 0, n, 0, 0, 0, 1, w1, h1⟩, by kernel_rfl, rfl, rfl⟩, ⟨⟨2, 1, 0, 0, 0, n, 0, 2, w2, h2⟩, by kernel_rfl, rfl, rfl⟩, fun h => absurd h (by decide), fun _ => do1_code (hv1 _ _ _) (by cases void <;> kernel_rfl)⟩
    · have hw : stWant false void n part = 0 := (if_neg (by decide)).trans (if_neg hc)
      have hh : stHeld false void n part = 0 := if_neg (by rw [hw]; decide)
      rw [hw, if_neg (by simp)] at hs
      have hd : (posN ({ stT n with time := 3, state := 1 } : Transfer).debit (stE1 n w1 w2 h1 h2 s).ids).getD 0 = 0 := by kernel_rfl
      have hcr : (posN ({ stT n with time := 3, state := 1 } : Transfer).credit (stE1 n w1 w2 h1 h2 s).ids).getD 0 = 1 := by kernel_rfl
      rw [hd, hcr, hN] at hs
      have e3 := do1_ok (hv1 _ _ _) (hm.trans hs)
      rw [e3, hw, hh]
      have hz := subN_self n
      generalize hk : (if part = 0 then n else part) = k at *
      cases void with
      | true =>
        have hp : stPosted false true n part = 0 := if_neg (fun h => by cases h.2)
        have hv := secF_void ⟨1, 1, 0, n, 0, 0, 0, 1, w1, h1⟩ ⟨2, 1, 0, 0, 0, n, 0, 2, w2, h2⟩ [{ stT n with time := 3, state := 1 }] [⟨1, 3, 2, n, n, 0, 0, 0⟩] [s] 3 0 (stS 2 1 part true) { stT n with time := 3, state := 1 } 0 n k (of_decide_eq_true (by kernel_rfl)) (by kernel_rfl)
        simp only at hv
        rw [hz, add_two] at hv
        rw [hp, show secF (stE1 n w1 w2 h1 h2 s) (stS 2 1 part true) _ 0 0 1 n k = _ from hv]
        exact ⟨rfl, ⟨_, two_account1 rfl, rfl, rfl⟩, ⟨_, two_account2 rfl rfl, rfl, rfl⟩, fun _ => steps_end _ _ (by kernel_rfl) (by kernel_rfl), fun h => absurd rfl h⟩
      | false =>
        have hp : stPosted false false n part = k := (if_pos ⟨hw, rfl⟩).trans hk
        have hv := secF_post ⟨1, 1, 0, n, 0, 0, 0, 1, w1, h1⟩ ⟨2, 1, 0, 0, 0, n, 0, 2, w2, h2⟩ [{ stT n with time := 3, state := 1 }] [⟨1, 3, 2, n, n, 0, 0, 0⟩] [s] 3 0 (stS 2 1 part false) { stT n with time := 3, state := 1 } 0 n k (by kernel_rfl) (of_decide_eq_true (by kernel_rfl))
        simp only at hv
        obtain ⟨q1, q2, q3, q4⟩ := addN_zero k
        rw [hz, q1, add_two] at hv
        rw [hp, show secF (stE1 n w1 w2 h1 h2 s) (stS 2 1 part false) _ 0 0 1 n k = _ from hv]
        exact ⟨rfl, ⟨_, two_account1 rfl, rfl, rfl⟩, ⟨_, two_account2 rfl rfl, rfl, rfl⟩, fun _ => steps_end _ _ (by kernel_rfl) (by kernel_rfl), fun h => absurd rfl h⟩
theorem two3_tr (b : Nat) (i : EngI) (hi : i.lb.length = Eng.empty.rws.length) (bq c : Nat) (κ : Kap) (hκ : Laid κ) (x y z : HProp) (cs : List HProp) :
    Te Tryd.prog 16 [.pointer (some ⟨b, 0, none⟩), .agg (reqC (reqA (some ⟨bq, 0, none⟩) [acctN 1, acctN 2] c)).toArray] κ (pts bq (37, [acctN 1, acctN 2].flatMap encA) :: x :: y :: z :: engO b Eng.empty i cs) (fun u : EngI × Value => u.1.lb.length = two0.rws.length)
      (fun u => u.2) (fun u => x :: y :: z :: engO b two0 u.1 cs) := fun w hs => by
  have h := applyF_tr [pts bq (37, [acctN 1, acctN 2].flatMap encA), x, y, z] b Eng.empty i hi (m := 0) (by omega) empty_w (reqA (some ⟨bq, 0, none⟩) [acctN 1, acctN 2] c) (by simp [reqA]) (by simp [reqA]) (by simp [reqA]) κ hκ [pts bq (37, [acctN 1, acctN 2].flatMap encA)] cs ⟨[], _, rfl⟩ (.inr ⟨bq, 0, rfl, .ofRd (h := .head)⟩) (.inl rfl)
  rw [two_apply] at h
  exact (h w hs).mono fun _ _ ⟨u, h0, h1, h2⟩ => ⟨(u.1, _), h0, h1, h2.rows.rows⟩
def tickR (t : Int) : Req := ⟨3, none, [], 0, none, [], 0, 0, 0, t, 0, 0⟩
theorem steps_apply (n : Num) : ((do1 two0 (stT n)).1.apply (tickR 5)).1.1 = (do1 two0 (stT n)).1.tick 5 := by
  obtain ⟨w1, w2, h1, h2, s, e1⟩ := steps_one n
  rw [e1]
  unfold Eng.apply
  rw [if_neg (show ¬ (tickR 5).kind = 1 by decide), if_neg (show ¬ (tickR 5).kind = 2 by decide), if_pos ⟨rfl, show (0 : Int) < 5 by decide⟩]
  rfl
theorem stPre_w (tk : Bool) (n : Num) : EngW 1204 (stPre tk n) := by
  have hw1 := do1_w two0_w (stT n)
  cases tk with
  | false => exact hw1.mono (by omega)
  | true =>
    have := apply_w hw1 (tickR 5) (by decide) (by decide) (by decide)
    rw [steps_apply] at this
    exact this
theorem Tr.efF3 {P : Program} {f : FuncId} {args : List Value} {κ : Kap} {b : Nat} {e : Eng} {i : EngI} {cs : List HProp} {v : Value} {x y z : HProp} (F : List HProp) (h : ∀ cs, Tr P f args κ (engO b e i cs) v (engO b e i cs)) : Tr P f args κ (F ++ x :: y :: z :: engO b e i cs) v (F ++ x :: y :: z :: engO b e i cs) := by
  have := Tr.ef (F ++ [x, y, z]) (h ((F ++ [x, y, z]) ++ cs))
  rw [List.append_assoc] at this
  exact this
theorem Tr.efF4 {P : Program} {f : FuncId} {args : List Value} {κ : Kap} {b : Nat} {e : Eng} {i : EngI} {cs : List HProp} {v : Value} {x y z u : HProp} (F : List HProp) (h : ∀ cs, Tr P f args κ (engO b e i cs) v (engO b e i cs)) : Tr P f args κ (F ++ x :: y :: z :: u :: engO b e i cs) v (F ++ x :: y :: z :: u :: engO b e i cs) := by
  have := Tr.ef (F ++ [x, y, z, u]) (h ((F ++ [x, y, z, u]) ++ cs))
  rw [List.append_assoc] at this
  exact this
end Go.Proofs.YtpcechnalfaajaaDoor

/- The law EngineSteps. -/
namespace Go.Proofs.YtpcechnalfaajaaDoor
open Go Go.Proofs

theorem eng_drop {κ : Kap} {w : World} {b : Nat} {e : Eng} {i : EngI} {cs : List HProp} (hs : Sat κ w (engO b e i cs)) : Sat κ w cs := by
  have h1 : Sat κ w ([_, _, _, _, _, _] ++ (rowsP e.rws i.lb ++ cs)) := hs
  have h2 : Sat κ w (rowsP e.rws i.lb ++ cs) := h1.imp fun g hg => sepL_cut [] [_, _, _, _, _, _] hg
  exact h2.imp fun g hg => sepL_cut [] (rowsP e.rws i.lb) hg
set_option maxHeartbeats 4000000 in
theorem steps_tr (n part : Num) (w0 w1 : Int) (κ : Kap) (hκ : Laid κ) (cs : List HProp) : Tr Tryd.prog 3 [.agg (nm n).toArray, .agg (nm part).toArray, .agg #[.int .i64 w0, .int .i64 w1]] κ cs (.bool true) cs := by
  refine .enter Tryd.func3 rfl rfl ?_
  refine .seq ?_
  refine .reg ?_
  refine .bx fun b3 => ?_
  refine .bx fun b4 => ?_
  refine .bx fun b5 => ?_
  refine .as ?_
  refine .go ?_
  refine .seq ?_
  refine .seq ?_
  refine .reg ?_
  rw [vc_agg, vc_agg]
  refine .cl (fit_tr κ hκ _) ?_
  refine .nt ?_
  refine .go ?_
  refine .cond rfl (fun hc => by cases hc) (fun hc => ?_)
  refine .go ?_
  refine .seq ?_
  refine .reg ?_
  refine .ixa ?_
  refine .ld ?_
  refine .as ?_
  refine .go ?_
  refine .seq ?_
  refine .reg ?_
  refine .ce (newO_tr κ _) (fun x hx => ?_)
  generalize x.1 = b at *
  generalize x.2 = i at *
  refine .al fun b8 => ?_
  refine .st ?_
  refine .go ?_
  refine .seq ?_
  rw [vc_agg]
  refine .sat (cs' := boxE b8 b :: pts b3 (24, nm n) :: pts b4 (24, nm part) :: engO b Eng.empty i cs) (fun w hs => (hs.imp fun _ hg => sepL_tails (F := [_]) (fun _ hg => (eng_back [_, _, _]).2 hg) hg).pm 4 [0, 3, 2]) ?_
  refine .regD [(b8, 0, [ptrV b])] [] ?_
  refine .ld 0 ?_
  refine .cl 1 (of_tr 1 (by decide) κ _) ?_
  refine .bd 2 (r := encA (acctN 1)) ?_ rfl ⟨inferInstance, inferInstance, rfl, by kernel_rfl⟩
  refine .cl 3 (of_tr 2 (by decide) κ _) ?_
  refine .bd 4 (r := encA (acctN 2)) ?_ rfl ⟨inferInstance, inferInstance, rfl, by kernel_rfl⟩
  refine .bs 5 (r := [acctN 1, acctN 2].flatMap encA) (fun b30 => ?_) rfl ⟨inferInstance, inferInstance, ⟨rfl, rfl, rfl, rfl⟩, rfl, by kernel_rfl⟩
  refine .bd 6 (r := reqC (reqA (some ⟨b30, 0, none⟩) [acctN 1, acctN 2] 2)) ?_ rfl ⟨inferInstance, inferInstance, rfl, by kernel_rfl⟩
  refine .ce 7 (two3_tr b i hx b30 2 κ hκ _ _ _ _) (fun z hz => ?_)
  generalize z.1 = i1 at *
  generalize z.2 = v32
  refine .go ?_
  refine .seq ?_
  refine .reg ?_
  refine .mf ?_
  refine .as ?_
  refine .go ?_
  refine .seq ?_
  refine .seq ?_
  refine .regD [(b8, 0, [ptrV b]), (b3, 0, nm n)] [] ?_
  refine .mv 0 ?_
  refine .ldw 4 ?_
  refine .cl 1 (of_tr 1 (by decide) κ _) ?_
  refine .cl 2 (of_tr 1 (by decide) κ _) ?_
  refine .cl 3 (of_tr 2 (by decide) κ _) ?_
  refine .bd 5 (r := encT (stT n)) ?_ rfl ⟨inferInstance, inferInstance, rfl, by kernel_rfl⟩
  refine .ceV 6 (fst := []) (cap := [.pointer (some ⟨b8, 0, none⟩)]) (vs := [.agg (encT (stT n)).toArray]) (doS2_tr b b8 two0 i1 hz (by omega) two0_w (stT n) κ hκ _ _ _) (fun i2 h2 => ?_)
  obtain ⟨l1, -⟩ := steps_law false false n part
  have hw1 := do1_w two0_w (stT n)
  rw [l1]
  refine .ne 7 ?_
  refine .go ?_
  refine .cond rfl (fun hc => by cases hc) (fun hc => ?_)
  refine .go ?_
  refine .seq ?_
  refine .reg ?_
  refine .as ?_
  refine .go ?_
  obtain ⟨vd, hvd⟩ : ∃ vd : Bool, decide (band w0 1 = 1) = vd := ⟨_, rfl⟩
  obtain ⟨tk, htk⟩ : ∃ tk : Bool, decide (band w0 2 = 2) = tk := ⟨_, rfl⟩
  refine .jn (ι := Unit) (fun _ => [(3, .pointer (some ⟨b3, 0, none⟩)), (4, .pointer (some ⟨b4, 0, none⟩)), (6, .bool false), (7, .int .i64 w0), (8, .pointer (some ⟨b8, 0, none⟩)), (9, .func (.func 18) #[] #[.pointer (some ⟨b8, 0, none⟩)]), (10, .int .i64 (if vd then 8 else 4))]) (fun _ => boxE b8 b :: pts b3 (24, nm n) :: pts b4 (24, nm part) :: engO b (do1 two0 (stT n)).1 i2 cs) (fun _ => True) ?_ fun _ _ => ?_
  · refine .seq ?_
    refine .reg ?_
    refine .mv ?_
    refine .an ?_
    refine .eq ?_
    refine .go ?_
    refine .cond rfl (fun hc => ?_) (fun hc => ?_)
    · have : vd = true := hvd.symm.trans hc
      subst this
      refine .reg ?_
      refine .as ?_
      exact .nil fun aa w hf hs => ⟨(), trivial, hf.to (by repeat (first | exact trivial | refine ⟨rfl, ?_⟩)), hs⟩
    · have : vd = false := hvd.symm.trans hc
      subst this
      exact .skip fun aa w hf hs => ⟨(), trivial, hf.to (by repeat (first | exact trivial | refine ⟨rfl, ?_⟩)), hs⟩
  refine .jn (ι := EngI) (fun _ => [(3, .pointer (some ⟨b3, 0, none⟩)), (4, .pointer (some ⟨b4, 0, none⟩)), (6, .bool false), (7, .int .i64 w0), (8, .pointer (some ⟨b8, 0, none⟩)), (9, .func (.func 18) #[] #[.pointer (some ⟨b8, 0, none⟩)]), (10, .int .i64 (if vd then 8 else 4))]) (fun i3 => boxE b8 b :: pts b3 (24, nm n) :: pts b4 (24, nm part) :: engO b (stPre tk n) i3 cs) (fun i3 => i3.lb.length = (stPre tk n).rws.length) ?_ fun i3 h3 => ?_
  · refine .seq ?_
    refine .reg ?_
    refine .mv ?_
    refine .an ?_
    refine .eq ?_
    refine .go ?_
    refine .cond rfl (fun hc => ?_) (fun hc => ?_)
    · have : tk = true := htk.symm.trans hc
      subst this
      refine .reg ?_
      refine .ld ?_
      refine .bd (r := reqC (tickR 5)) ?_ ⟨inferInstance, inferInstance, rfl, by kernel_rfl⟩
      refine .ce (applyF_tr [boxE b8 b, pts b3 (24, nm n), pts b4 (24, nm part)] b (do1 two0 (stT n)).1 i2 h2 (m := 604) (by omega) hw1 (tickR 5) (by decide) (by decide) (by decide) κ hκ [] cs ⟨[], _, rfl⟩ (.inl rfl) (.inl rfl)) (fun y hy => ?_)
      rw [steps_apply] at hy ⊢
      exact .nil fun aa w hf hs => ⟨y.1, hy, hf.to (by repeat (first | exact trivial | refine ⟨rfl, ?_⟩)), hs.rows⟩
    · have : tk = false := htk.symm.trans hc
      subst this
      exact .skip fun aa w hf hs => ⟨i2, h2, hf.to (by repeat (first | exact trivial | refine ⟨rfl, ?_⟩)), hs⟩
  obtain ⟨-, l2, l3, l4, l5, l6⟩ := steps_law tk vd n part
  have hwP := stPre_w tk n
  have hwQ := do1_w hwP (stS 2 1 part vd)
  refine .seq ?_
  refine .regD [(b8, 0, [ptrV b]), (b4, 0, nm part)] [] ?_
  refine .mv 0 ?_
  refine .ldw 3 ?_
  refine .mv 4 ?_
  refine .cl 1 (of_tr 2 (by decide) κ _) ?_
  refine .cl 2 (of_tr 1 (by decide) κ _) ?_
  refine .bd 5 (r := encT (stS 2 1 part vd)) ?_ rfl ⟨inferInstance, inferInstance, rfl, by kernel_rfl⟩
  refine .ceV 6 (fst := []) (cap := [.pointer (some ⟨b8, 0, none⟩)]) (vs := [.agg (encT (stS 2 1 part vd)).toArray]) (doS2_tr b b8 (stPre tk n) i3 h3 (by omega) hwP (stS 2 1 part vd) κ hκ _ _ _) (fun i4 h4 => ?_)
  rw [l2]
  generalize (do1 (stPre tk n) (stS 2 1 part vd)).1 = E at *
  refine .as 7 ?_
  refine .go ?_
  refine .seq ?_
  refine .reg ?_
  refine .as ?_
  refine .go ?_
  refine .seq ?_
  refine .reg ?_
  refine .ldw ?_
  refine .ldw ?_
  refine .cl (compare_tr part n κ _) ?_
  refine .as ?_
  refine .go ?_
  refine .jn (ι := Unit) (fun _ => [(3, .pointer (some ⟨b3, 0, none⟩)), (4, .pointer (some ⟨b4, 0, none⟩)), (6, .bool false), (7, .int .i64 w0), (8, .pointer (some ⟨b8, 0, none⟩)), (9, .func (.func 18) #[] #[.pointer (some ⟨b8, 0, none⟩)]), (10, .int .i64 (if vd then 8 else 4)), (11, .int .i64 (stWant tk vd n part)), (12, .int .i64 (stWant tk vd n part))]) (fun _ => boxE b8 b :: pts b3 (24, nm n) :: pts b4 (24, nm part) :: engO b E i4 cs) (fun _ => True) ?_ fun _ _ => ?_
  · refine .block ?_
    refine .seq ?_
    refine .reg ?_
    refine .mv ?_
    refine .an ?_
    refine .eq ?_
    refine .as ?_
    refine .go ?_
    rw [htk]
    cases tk with
    | true =>
      refine .cond rfl (fun hc => ?_) (fun hc => by cases hc)
      rw [show stWant true vd n part = 23 from if_pos rfl]
      refine .reg ?_
      refine .as ?_
      exact .nil fun aa w hf hs => ⟨(), trivial, hf.to (by repeat (first | exact trivial | refine ⟨rfl, ?_⟩)), hs⟩
    | false =>
      refine .cond rfl (fun hc => by cases hc) (fun hc => ?_)
      have hw : stWant false vd n part = if part ≠ 0 ∧ (n.toNat < part.toNat ∨ (part.toNat < n.toNat ∧ vd = true)) then 24 else 0 := if_neg (by decide)
      have hy : (part ≠ 0 ∧ (n.toNat < part.toNat ∨ (part.toNat < n.toNat ∧ vd = true))) → stWant false vd n part = 24 := fun h => hw.trans (if_pos h)
      have hn : ¬ (part ≠ 0 ∧ (n.toNat < part.toNat ∨ (part.toNat < n.toNat ∧ vd = true))) → stWant false vd n part = 0 := fun h => hw.trans (if_neg h)
      clear hw
      generalize stWant false vd n part = W at *
      refine .seq ?_
      refine .reg ?_
      refine .ldw ?_
      refine .bz ?_
      refine .nen part 0 ?_
      refine .mv ?_
      by_cases h0 : part = 0
      · rw [decide_eq_true h0, hn (fun h => h.1 h0)]
        repeat refine .skip ?_
        first | refine .pt ?_ | refine .pf ?_
        refine .as ?_
        refine .go ?_
        refine .cond rfl (fun hc => by cases hc) (fun hc => ?_)
        exact .skip fun aa w hf hs => ⟨(), trivial, hf.to (by repeat (first | exact trivial | refine ⟨rfl, ?_⟩)), hs⟩
      · rw [decide_eq_false h0]
        rcases cmp_ways part n with ⟨h, h'⟩ | ⟨h, h'⟩ | ⟨h, h'⟩
        · rw [h']
          refine .mv ?_
          refine .gt ?_
          refine .mv ?_
          refine .mv ?_
          refine .lt ?_
          refine .mv ?_
          refine .mv ?_
          refine .eq ?_
          first | refine .pt ?_ | refine .pf ?_
          first | refine .pt ?_ | refine .pf ?_
          first | refine .pt ?_ | refine .pf ?_
          refine .as ?_
          refine .go ?_
          cases vd with
          | true =>
            rw [hy ⟨h0, .inr ⟨h, rfl⟩⟩]
            refine .cond rfl (fun hc => ?_) (fun hc => by cases hc)
            refine .reg ?_
            refine .as ?_
            exact .nil fun aa w hf hs => ⟨(), trivial, hf.to (by repeat (first | exact trivial | refine ⟨rfl, ?_⟩)), hs⟩
          | false =>
            rw [hn (fun h5 => h5.2.elim (fun h1 => by omega) (fun h1 => by cases h1.2))]
            refine .cond rfl (fun hc => by cases hc) (fun hc => ?_)
            exact .skip fun aa w hf hs => ⟨(), trivial, hf.to (by repeat (first | exact trivial | refine ⟨rfl, ?_⟩)), hs⟩
        · rw [h', hn (by rintro ⟨_, h1 | h1⟩ <;> omega)]
          refine .mv ?_
          refine .gt ?_
          refine .mv ?_
          refine .mv ?_
          refine .lt ?_
          refine .mv ?_
          repeat refine .skip ?_
          first | refine .pt ?_ | refine .pf ?_
          first | refine .pt ?_ | refine .pf ?_
          first | refine .pt ?_ | refine .pf ?_
          refine .as ?_
          refine .go ?_
          refine .cond rfl (fun hc => by cases hc) (fun hc => ?_)
          exact .skip fun aa w hf hs => ⟨(), trivial, hf.to (by repeat (first | exact trivial | refine ⟨rfl, ?_⟩)), hs⟩
        · rw [h', hy ⟨h0, .inl h⟩]
          refine .mv ?_
          refine .gt ?_
          refine .mv ?_
          repeat refine .skip ?_
          first | refine .pt ?_ | refine .pf ?_
          first | refine .pt ?_ | refine .pf ?_
          refine .as ?_
          refine .go ?_
          refine .cond rfl (fun hc => ?_) (fun hc => by cases hc)
          refine .reg ?_
          refine .as ?_
          exact .nil fun aa w hf hs => ⟨(), trivial, hf.to (by repeat (first | exact trivial | refine ⟨rfl, ?_⟩)), hs⟩
  obtain ⟨x1, ha1, hq1, hp1⟩ := l3
  obtain ⟨x2, ha2, hq2, hp2⟩ := l4
  have hA1 := fun κ cs => acct_tr b E hwQ.hn (by have := hwQ.la; omega) i4 1 κ cs
  have hA2 := fun κ cs => acct_tr b E hwQ.hn (by have := hwQ.la; omega) i4 2 κ cs
  rw [ha1] at hA1
  rw [ha2] at hA2
  simp only [Option.getD_some, Option.isSome_some] at hA1 hA2
  refine .seq ?_
  refine .regD [(b8, 0, [ptrV b])] [] ?_
  refine .ld 0 ?_
  refine .pend ?_
  refine .al 6 ?_
  refine .cl 1 (fun F => of_tr 1 (by decide) κ _) ?_
  refine .cl 2 (fun F => Tr.efF3 F fun cs => hA1 κ cs) ?_
  refine .mv 3 ?_
  refine .ex 4 ?_
  refine .ex 5 ?_
  refine .com fun b14 => ?_
  refine .dn ?_
  have hx46 : (encA x1).length = 46 := encA_len _
  have hx1 : one (encA x1) = true := encA_one _
  have hy46 : (encA x2).length = 46 := encA_len _
  have hy1 : one (encA x2) = true := encA_one _
  refine .stw 7 (v := .agg (encA x1).toArray) ?_ (h := ⟨rfl, rfl, inferInstance, inferInstance, ⟨hx46, rfl⟩, hx1, rfl⟩)
  rw [vc_agg]
  refine .as 8 ?_
  refine .go ?_
  refine .seq ?_
  refine .sat (fun w hs => hs.pm 4 [1, 0, 2, 3]) ?_
  refine .regD [(b8, 0, [ptrV b])] [] ?_
  refine .ld 0 ?_
  refine .pend ?_
  refine .al 6 ?_
  refine .cl 1 (fun F => of_tr 2 (by decide) κ _) ?_
  refine .cl 2 (fun F => Tr.efF4 F fun cs => hA2 κ cs) ?_
  refine .mv 3 ?_
  refine .ex 4 ?_
  refine .ex 5 ?_
  refine .com fun b16 => ?_
  refine .dn ?_
  refine .stw 7 (v := .agg (encA x2).toArray) ?_ (h := ⟨rfl, rfl, inferInstance, inferInstance, ⟨hy46, rfl⟩, hy1, rfl⟩)
  rw [vc_agg]
  refine .as 8 ?_
  refine .go ?_
  refine .seq ?_
  refine .regD [(b3, 0, nm n)] [] ?_
  refine .bz 0 ?_
  refine .ldw 1 ?_
  refine .pend ?_
  refine .al 3 ?_
  refine .al 2 ?_
  refine .com fun b18 => ?_
  refine .com fun b19 => ?_
  refine .dn ?_
  refine .stw 4 (v := .agg (nm 0).toArray) ?_
  rw [vc_agg]
  refine .stw 5 (v := .agg (nm n).toArray) ?_
  rw [vc_agg]
  refine .go ?_
  have hH : stHeld tk vd n part = if stWant tk vd n part = 24 then n else 0 := rfl
  have hP : stPosted tk vd n part = if stWant tk vd n part = 0 ∧ vd = false then (if part = 0 then n else part) else 0 := rfl
  have hWc : stWant tk vd n part = 0 ∨ stWant tk vd n part = 23 ∨ stWant tk vd n part = 24 := by
    unfold stWant
    split
    · exact .inr (.inl rfl)
    · split
      · exact .inr (.inr rfl)
      · exact .inl rfl
  generalize stHeld tk vd n part = H at *
  generalize stPosted tk vd n part = B at *
  generalize stWant tk vd n part = W at *
  refine .jn (ι := Unit) (fun _ => [(6, .bool false), (8, .pointer (some ⟨b8, 0, none⟩)), (9, .func (.func 18) #[] #[.pointer (some ⟨b8, 0, none⟩)]), (10, .int .i64 (if vd then 8 else 4)), (11, .int .i64 W), (12, .int .i64 W), (14, .pointer (some ⟨b14, 0, none⟩)), (16, .pointer (some ⟨b16, 0, none⟩)), (18, .pointer (some ⟨b18, 0, none⟩)), (19, .pointer (some ⟨b19, 0, none⟩))])
    (fun _ => boxE b8 b :: pts b14 (37, encA x1) :: pts b16 (37, encA x2) :: pts b18 (24, nm B) :: pts b19 (24, nm (if W = 0 then 0 else n)) :: engO b E i4 cs) (fun _ => True) ?_ fun _ _ => ?_
  · refine .seq ?_
    refine .reg ?_
    refine .mv ?_
    refine .eq ?_
    refine .go ?_
    by_cases hW0 : W = 0
    · rw [decide_eq_true hW0, if_pos hW0]
      refine .cond rfl (fun hc => ?_) (fun hc => by cases hc)
      refine .seq ?_
      refine .reg ?_
      refine .bz ?_
      refine .stw (v := .agg (nm 0).toArray) ?_
      rw [vc_agg]
      refine .go ?_
      refine .seq ?_
      refine .reg ?_
      refine .mv ?_
      refine .eq ?_
      refine .go ?_
      cases vd with
      | true =>
        have hB : B = 0 := hP.trans (if_neg fun h => by cases h.2)
        rw [hB]
        refine .cond rfl (fun hc => by cases hc) (fun hc => ?_)
        exact .skip fun aa w hf hs => ⟨(), trivial, hf.to (by repeat (first | exact trivial | refine ⟨rfl, ?_⟩)), hs.pm 7 [3, 4, 2, 1, 0]⟩
      | false =>
        have hB : B = if part = 0 then n else part := hP.trans (if_pos ⟨hW0, rfl⟩)
        refine .cond rfl (fun hc => ?_) (fun hc => by cases hc)
        refine .seq ?_
        refine .reg ?_
        refine .ldw ?_
        refine .stw (v := .agg (nm part).toArray) ?_
        rw [vc_agg]
        refine .go ?_
        refine .seq ?_
        refine .reg ?_
        refine .ldw ?_
        refine .bz ?_
        refine .eqn part 0 ?_
        refine .go ?_
        by_cases hp0 : part = 0
        · rw [decide_eq_true hp0]
          rw [if_pos hp0] at hB
          rw [hB]
          refine .cond rfl (fun hc => ?_) (fun hc => by cases hc)
          refine .reg ?_
          refine .ldw ?_
          refine .stw (v := .agg (nm n).toArray) ?_
          rw [vc_agg]
          exact .nil fun aa w hf hs => ⟨(), trivial, hf.to (by repeat (first | exact trivial | refine ⟨rfl, ?_⟩)), hs.pm 7 [3, 4, 2, 1, 0]⟩
        · rw [decide_eq_false hp0]
          rw [if_neg hp0] at hB
          rw [hB]
          refine .cond rfl (fun hc => by cases hc) (fun hc => ?_)
          exact .skip fun aa w hf hs => ⟨(), trivial, hf.to (by repeat (first | exact trivial | refine ⟨rfl, ?_⟩)), hs.pm 7 [3, 4, 2, 1, 0]⟩
    · rw [decide_eq_false hW0, if_neg hW0]
      have hB : B = 0 := hP.trans (if_neg fun h => hW0 h.1)
      rw [hB]
      refine .cond rfl (fun hc => by cases hc) (fun hc => ?_)
      exact .skip fun aa w hf hs => ⟨(), trivial, hf.to (by repeat (first | exact trivial | refine ⟨rfl, ?_⟩)), hs.pm 7 [3, 4, 2, 1, 0]⟩
  refine .jn (ι := Unit) (fun _ => [(6, .bool false), (8, .pointer (some ⟨b8, 0, none⟩)), (9, .func (.func 18) #[] #[.pointer (some ⟨b8, 0, none⟩)]), (10, .int .i64 (if vd then 8 else 4)), (11, .int .i64 W), (12, .int .i64 W), (14, .pointer (some ⟨b14, 0, none⟩)), (16, .pointer (some ⟨b16, 0, none⟩)), (18, .pointer (some ⟨b18, 0, none⟩)), (19, .pointer (some ⟨b19, 0, none⟩))])
    (fun _ => boxE b8 b :: pts b14 (37, encA x1) :: pts b16 (37, encA x2) :: pts b18 (24, nm B) :: pts b19 (24, nm H) :: engO b E i4 cs) (fun _ => True) ?_ fun _ _ => ?_
  · refine .seq ?_
    refine .reg ?_
    refine .mv ?_
    refine .eq ?_
    refine .go ?_
    by_cases h23 : W = 23
    · rw [decide_eq_true h23]
      have hH0 : H = 0 := hH.trans (if_neg (by rw [h23]; decide))
      rw [hH0]
      refine .cond rfl (fun hc => ?_) (fun hc => by cases hc)
      refine .reg ?_
      refine .bz ?_
      refine .stw (v := .agg (nm 0).toArray) ?_
      rw [vc_agg]
      exact .nil fun aa w hf hs => ⟨(), trivial, hf.to (by repeat (first | exact trivial | refine ⟨rfl, ?_⟩)), hs⟩
    · rw [decide_eq_false h23]
      have hH1 : H = if W = 0 then 0 else n := by
        rcases hWc with h | h | h
        · rw [hH, if_neg (by rw [h]; decide), if_pos h]
        · exact absurd h h23
        · rw [hH, if_pos h, if_neg (by rw [h]; decide)]
      rw [← hH1]
      refine .cond rfl (fun hc => by cases hc) (fun hc => ?_)
      exact .skip fun aa w hf hs => ⟨(), trivial, hf.to (by repeat (first | exact trivial | refine ⟨rfl, ?_⟩)), hs⟩
  repeat refine .seq ?_
  refine .reg ?_
  refine .mv ?_
  refine .mv ?_
  refine .ne ?_
  rw [decide_eq_false (p := W ≠ W) (fun h => h rfl)]
  refine .mv ?_
  refine .fa ?_
  refine .ld (v := .agg (nm x1.dq).toArray) ?_
  refine .ldw ?_
  refine .nen x1.dq B ?_
  rw [decide_eq_true hq1]
  first | refine .pt ?_ | refine .pf ?_
  refine .mv ?_
  refine .fa ?_
  refine .ld (v := .agg (nm x2.cq).toArray) ?_
  refine .ldw ?_
  refine .nen x2.cq B ?_
  rw [decide_eq_true hq2]
  first | refine .pt ?_ | refine .pf ?_
  refine .mv ?_
  refine .fa ?_
  refine .ld (v := .agg (nm x1.dp).toArray) ?_
  refine .ldw ?_
  refine .nen x1.dp H ?_
  rw [decide_eq_true hp1]
  first | refine .pt ?_ | refine .pf ?_
  refine .mv ?_
  refine .fa ?_
  refine .ld (v := .agg (nm x2.cp).toArray) ?_
  refine .ldw ?_
  refine .nen x2.cp H ?_
  rw [decide_eq_true hp2]
  first | refine .pt ?_ | refine .pf ?_
  refine .go ?_
  refine .cond rfl (fun hc => by cases hc) (fun hc => ?_)
  refine .go ?_
  repeat refine .seq ?_
  refine .reg ?_
  refine .mv ?_
  refine .eq ?_
  refine .go ?_
  refine .sat (cs' := boxE b8 b :: engO b E i4 cs) (fun w hs => hs.pm 5 [0]) ?_
  by_cases hW0 : W = 0
  · rw [decide_eq_true hW0]
    obtain ⟨m1, m2⟩ := l5 hW0
    have hwR := do1_w hwQ (stS 3 1 0 vd)
    refine .cond rfl (fun hc => ?_) (fun hc => by cases hc)
    repeat refine .seq ?_
    refine .reg ?_
    refine .mv ?_
    refine .cl (of_tr 3 (by decide) κ _) ?_
    refine .cl (of_tr 1 (by decide) κ _) ?_
    refine .mv ?_
    refine .bd (r := encT (stS 3 1 0 vd)) ?_ ⟨inferInstance, inferInstance, rfl, by kernel_rfl⟩
    refine .ceV (fst := []) (cap := [.pointer (some ⟨b8, 0, none⟩)]) (vs := [.agg (encT (stS 3 1 0 vd)).toArray]) (doS_tr b b8 E i4 h4 (by omega) hwQ (stS 3 1 0 vd) κ hκ _) (fun i5 h5 => ?_)
    rw [m1]
    generalize (do1 E (stS 3 1 0 vd)).1 = E1 at *
    refine .eq ?_
    refine .mv ?_
    refine .mv ?_
    refine .cl (of_tr 3 (by decide) κ _) ?_
    refine .cl (of_tr 2 (by decide) κ _) ?_
    refine .mv ?_
    refine .bd (r := encT (stS 3 2 0 vd)) ?_ ⟨inferInstance, inferInstance, rfl, by kernel_rfl⟩
    refine .ceV (fst := []) (cap := [.pointer (some ⟨b8, 0, none⟩)]) (vs := [.agg (encT (stS 3 2 0 vd)).toArray]) (doS_tr b b8 E1 i5 h5 (by omega) hwR (stS 3 2 0 vd) κ hκ _) (fun i6 h6 => ?_)
    rw [m2]
    generalize (do1 E1 (stS 3 2 0 vd)).1 = E2 at *
    refine .eq ?_
    first | refine .pt ?_ | refine .pf ?_
    refine .as ?_
    refine .go ?_
    refine .r1 fun w hs => ?_
    exact ⟨rfl, eng_drop hs.rows⟩
  · rw [decide_eq_false hW0]
    have m1 := l6 hW0
    refine .cond rfl (fun hc => by cases hc) (fun hc => ?_)
    refine .go ?_
    repeat refine .seq ?_
    refine .reg ?_
    refine .mv ?_
    refine .cl (of_tr 3 (by decide) κ _) ?_
    refine .cl (of_tr 9 (by decide) κ _) ?_
    refine .mv ?_
    refine .bd (r := encT (stS 3 9 0 vd)) ?_ ⟨inferInstance, inferInstance, rfl, by kernel_rfl⟩
    refine .ceV (fst := []) (cap := [.pointer (some ⟨b8, 0, none⟩)]) (vs := [.agg (encT (stS 3 9 0 vd)).toArray]) (doS_tr b b8 E i4 h4 (by omega) hwQ (stS 3 9 0 vd) κ hκ _) (fun i5 h5 => ?_)
    rw [m1]
    generalize (do1 E (stS 3 9 0 vd)).1 = E1 at *
    refine .eq ?_
    refine .as ?_
    refine .go ?_
    refine .r1 fun w hs => ?_
    exact ⟨rfl, eng_drop hs.rows⟩
end Go.Proofs.YtpcechnalfaajaaDoor

/- The law EngineRefuses. -/
namespace Go.Proofs.YtpcechnalfaajaaDoor
open Go Go.Proofs

theorem alike_self (e : Eng) : alikeE e e = true := decide_eq_true ⟨rfl, rfl⟩
set_option maxHeartbeats 4000000 in
theorem refuses_tr (L : List Req) (p : Option Addr) (cap : Nat) (hcap : L.length ≤ cap) (kd : Int) (κ : Kap) (hκ : Laid κ) (hL : ReqsOk κ p L) (cs : List HProp) : Tr Tryd.prog 13 [.slice p L.length cap, .int .i64 kd] κ cs (.bool true) cs := by
  refine .enter Tryd.func13 rfl rfl ?_
  repeat refine .seq ?_
  refine .reg ?_
  refine .as ?_
  refine .go ?_
  repeat refine .seq ?_
  refine .reg ?_
  refine .cl (fit_tr κ hκ _) ?_
  refine .nt ?_
  refine .go ?_
  refine .cond rfl (fun hc => by cases hc) (fun hc => ?_)
  refine .go ?_
  repeat refine .seq ?_
  refine .reg ?_
  refine .mv ?_
  refine .cl (light_tr L p cap hcap κ hL _) ?_
  refine .nt ?_
  refine .go ?_
  refine .cond rfl (fun hc => ?_) (fun hc => ?_)
  · repeat refine .seq ?_
    refine .reg ?_
    refine .as ?_
    refine .go ?_
    refine .r1 fun w hs => ?_
    exact ⟨rfl, hs⟩
  have h60 := light_60 (show lightL L = true by simpa using hc)
  refine .go ?_
  repeat refine .seq ?_
  refine .reg ?_
  refine .ce (newO_tr κ _) (fun x hx => ?_)
  generalize x.1 = b at *
  generalize x.2 = i0 at *
  refine .as ?_
  refine .go ?_
  repeat refine .seq ?_
  refine .reg ?_
  refine .mv ?_
  refine .ln ?_
  refine .mv ?_
  refine .go ?_
  repeat refine .seq ?_
  refine .block ?_
  have hfr : ∀ q ∈ L, q.from_ ≤ 9223372036854775807 := fun q hq => (hL.fr q hq).2
  have hWk : ∀ k, k ≤ L.length → EngW 36600 (runL Eng.empty (L.take k)) := fun k hk => (runL_w empty_w (L.take k) (fun q hq => hfr q (List.mem_of_mem_take hq))).mono (by rw [List.length_take]; omega)
  refine .lp (fun x : Nat × EngI => [(0, .slice p L.length cap), (1, .int .i64 kd), (4, .bool false), (5, .pointer (some ⟨b, 0, none⟩)), (19, .slice p L.length cap), (20, .int .i64 L.length), (21, .int .i64 x.1)])
    (fun x => engO b (runL Eng.empty (L.take x.1)) x.2 cs) (fun x => x.1 ≤ L.length ∧ x.2.lb.length = (runL Eng.empty (L.take x.1)).rws.length) (fun x => L.length - x.1) (0, i0) ⟨Nat.zero_le _, hx⟩ (by repeat (first | exact trivial | refine ⟨rfl, ?_⟩)) rfl fun x hx => ?_
  obtain ⟨k, ik⟩ := x
  obtain ⟨hk, hik⟩ := hx
  simp only at hk hik
  refine .fra (fr' := [(0, .slice p L.length cap), (1, .int .i64 kd), (4, .bool false), (5, .pointer (some ⟨b, 0, none⟩)), (19, .slice p L.length cap), (20, .int .i64 L.length), (21, .int .i64 k)]) (by repeat (first | exact trivial | refine ⟨rfl, ?_⟩)) ?_
  refine .sat (cs' := engO b (runL Eng.empty (L.take k)) ik cs) (fun w hs => hs) ?_
  repeat refine .seq ?_
  refine .reg ?_
  refine .lt ?_
  refine .go ?_
  repeat refine .seq ?_
  refine .cond rfl (fun hc => ?_) (fun hc => ?_)
  · have hkl : k < L.length := by have : (k : Int) < L.length := of_decide_eq_true hc; omega
    have hmem := List.getElem_mem hkl
    have hrun := runL_take (e := Eng.empty) hkl
    rcases hL.rd with h | ⟨bl, o, rfl, hr⟩
    · exfalso
      have := congrArg List.length h
      rw [flat_len reqC 8 reqC_len] at this
      simp at this; omega
    refine .sat (cs' := isK κ :: engO b (runL Eng.empty (L.take k)) ik cs) (fun w hs => hs.isK) ?_
    haveI : RdAt bl (isK κ :: engO b (runL Eng.empty (L.take k)) ik cs) o (L.flatMap reqC) := .ofK hr
    refine .go ?_
    repeat refine .seq ?_
    refine .block ?_
    repeat refine .seq ?_
    refine .reg ?_
    refine .ix ?_
    refine .lx (req_get L k hkl) ?_
    have hWk0 := hWk k hk
    generalize runL Eng.empty (L.take k) = E at *
    generalize hq : L[k] = q at *
    refine .al fun b7 => ?_
    refine .stw (v := .agg (reqC q).toArray) ?_
    rw [vc_agg]
    refine .go ?_
    repeat refine .seq ?_
    refine .reg ?_
    refine .mv ?_
    refine .ldw ?_
    refine .cl (tame_tr q (hL.ac q hmem).2 (hL.tr q hmem).2 κ _) ?_
    refine .sat (cs' := engO b E ik cs) (fun w hs => hs.rows.rows) ?_
    refine .ce (applyQ_tr b E ik hik (by omega) hWk0 q κ hκ (hL.ac q hmem).1 (hL.tr q hmem).1 (hfr q hmem) _) (fun y hy => ?_)
    rw [← hrun] at hy
    refine .go ?_
    refine .reg ?_
    refine .ad ?_
    refine .mv ?_
    refine .nil fun aa w hf hs => ⟨(k + 1, y.1), ⟨hkl, hy⟩, by show L.length - (k + 1) < L.length - k; omega, hf.to (by repeat (first | exact trivial | refine ⟨rfl, ?_⟩)), ?_⟩
    show Sat κ w (engO b (runL Eng.empty (L.take (k + 1))) y.1 cs)
    rw [hrun]; exact hs
  have hkl : k = L.length := by have : ¬ (k : Int) < L.length := of_decide_eq_false hc; omega
  subst hkl
  have hW := hWk L.length (Nat.le_refl _)
  generalize runL Eng.empty (L.take L.length) = E at *
  refine .xgo ?_
  repeat refine .seq ?_
  refine .reg ?_
  refine .mv ?_
  refine .ce (ecopy_tr b E ik hik (by omega) hW κ _) (fun j hj => ?_)
  generalize j.1 = bw at *
  generalize j.2 = iw at *
  refine .sat (fun w hs => eng_swap hs) ?_
  refine .as ?_
  refine .go ?_
  refine .jn (ι := Int) (fun k' => [(0, .slice p L.length cap), (1, .int .i64 k'), (4, .bool false), (5, .pointer (some ⟨b, 0, none⟩)), (8, .pointer (some ⟨bw, 0, none⟩))]) (fun _ => engO b E ik (engO bw E iw cs)) (fun k' => k' ≠ 1 ∧ k' ≠ 2 ∧ k' ≠ 3) ?_ fun k' hk' => ?_
  · repeat refine .seq ?_
    refine .reg ?_
    refine .mv ?_
    refine .ge ?_
    refine .mv ?_
    by_cases h1 : (1 : Int) ≤ kd
    · rw [decide_eq_true h1]
      refine .mv ?_
      refine .le ?_
      by_cases h3 : kd ≤ 3
      · rw [decide_eq_true h3]
        first | refine .pt ?_ | refine .pf ?_
        refine .go ?_
        refine .cond rfl (fun hc => ?_) (fun hc => by cases hc)
        refine .reg ?_
        refine .as ?_
        exact .nil fun aa w hf hs => ⟨0, by decide, hf.to (by repeat (first | exact trivial | refine ⟨rfl, ?_⟩)), hs⟩
      · rw [decide_eq_false h3]
        first | refine .pt ?_ | refine .pf ?_
        refine .go ?_
        refine .cond rfl (fun hc => by cases hc) (fun hc => ?_)
        exact .skip fun aa w hf hs => ⟨kd, by omega, hf.to (by repeat (first | exact trivial | refine ⟨rfl, ?_⟩)), hs⟩
    · rw [decide_eq_false h1]
      repeat refine .skip ?_
      first | refine .pt ?_ | refine .pf ?_
      refine .go ?_
      refine .cond rfl (fun hc => by cases hc) (fun hc => ?_)
      exact .skip fun aa w hf hs => ⟨kd, by omega, hf.to (by repeat (first | exact trivial | refine ⟨rfl, ?_⟩)), hs⟩
  repeat refine .seq ?_
  refine .reg ?_
  refine .mv ?_
  refine .mv ?_
  refine .mv ?_
  refine .cl (nowE_tr b E ik κ _) ?_
  refine .adw ?_
  refine .bd (r := reqC (kindR k' (addK .i64 E.now 5))) ?_ ⟨inferInstance, inferInstance, rfl, by kernel_rfl⟩
  refine .ce (refuse_tr b E ik hik (by omega) hW k' (addK .i64 E.now 5) (wrap_le _).2 ⟨hk'.1, hk'.2.1, fun h => hk'.2.2 h.1⟩ κ hκ _) (fun y hy => ?_)
  generalize y.1 = i2 at *
  generalize y.2.1 = p2
  generalize y.2.2 = c2
  refine .mv ?_
  refine .ex ?_
  refine .ex ?_
  refine .as ?_
  refine .as ?_
  refine .go ?_
  repeat refine .seq ?_
  refine .reg ?_
  refine .mv ?_
  refine .mv ?_
  refine .cl (nowE_tr b E i2 κ _) ?_
  refine .bd (r := reqC (kindR 3 E.now)) ?_ ⟨inferInstance, inferInstance, rfl, by kernel_rfl⟩
  refine .ce (refuse_tr b E i2 hy (by omega) hW 3 E.now hW.hnow.2 ⟨by decide, by decide, fun h => Int.lt_irrefl _ h.2⟩ κ hκ _) (fun z hz => ?_)
  generalize z.1 = i3 at *
  generalize z.2.1 = p3
  generalize z.2.2 = c3
  refine .mv ?_
  refine .ex ?_
  refine .ex ?_
  refine .as ?_
  refine .as ?_
  refine .go ?_
  repeat refine .seq ?_
  refine .reg ?_
  refine .mv ?_
  refine .eq ?_
  refine .mv ?_
  refine .mv ?_
  refine .eq ?_
  first | refine .pt ?_ | refine .pf ?_
  refine .mv ?_
  refine .mv ?_
  refine .ln ?_
  refine .mv ?_
  refine .ln ?_
  refine .ad ?_
  refine .eq ?_
  first | refine .pt ?_ | refine .pf ?_
  refine .mv ?_
  refine .mv ?_
  refine .mv ?_
  refine .cl (alike_tr b bw E E i3 iw hW hW κ _) ?_
  rw [alike_self]
  first | refine .pt ?_ | refine .pf ?_
  refine .as ?_
  refine .go ?_
  refine .r1 fun w hs => ?_
  exact ⟨rfl, eng_drop (eng_drop hs)⟩
end Go.Proofs.YtpcechnalfaajaaDoor

/- Batches of events that are not linked; EngineBalances' plain law. -/
namespace Go.Proofs.YtpcechnalfaajaaDoor
open Go Go.Proofs

/-- One event by itself. -/
def Eng.one (ev : Eng.Evs) (e : Eng) (i : Nat) : Eng × List (Int × Int) := if (ev.do_ e i).2 = 0 then ((ev.do_ e i).1, []) else (e, [((i : Int), (ev.do_ e i).2)])
theorem batch_one {ev : Eng.Evs} {f i : Nat} {e : Eng} (hi : i < ev.n) (hf : band (ev.flags i) 1 = 0) : Eng.batch ev (f + 1) i e = ((Eng.batch ev f (i + 1) (Eng.one ev e i).1).1, (Eng.one ev e i).2 ++ (Eng.batch ev f (i + 1) (Eng.one ev e i).1).2) := by
  have hce : Eng.chainEnd ev (ev.n - i) i = i := by
    obtain ⟨m, hm⟩ : ∃ m, ev.n - i = m + 1 := ⟨ev.n - i - 1, by omega⟩
    rw [hm]
    exact if_neg (by simp [hf])
  have hrun : Eng.run ev 1 i e = if (ev.do_ e i).2 = 0 then ((ev.do_ e i).1, none) else ((ev.do_ e i).1, some (i, (ev.do_ e i).2)) := rfl
  have hm : min (i + 1) ev.n - i = 1 := by omega
  have hch : Eng.chain ev i i e = Eng.one ev e i := by
    unfold Eng.one
    split
    · rename_i h0
      rw [if_pos h0] at hrun
      rw [chain_none hm hrun, if_neg (by omega)]
    · rename_i h0
      rw [if_neg h0] at hrun
      rw [chain_some hm hrun]
      show (e, [(((i + 0 : Nat) : Int), if i + 0 = i then (ev.do_ e i).2 else 1)]) = _
      rw [if_pos (by omega)]; rfl
  have hb : Eng.batch ev (f + 1) i e = ((Eng.batch ev f (Eng.chainEnd ev (ev.n - i) i + 1) (Eng.chain ev i (Eng.chainEnd ev (ev.n - i) i) e).1).1, (Eng.chain ev i (Eng.chainEnd ev (ev.n - i) i) e).2 ++ (Eng.batch ev f (Eng.chainEnd ev (ev.n - i) i + 1) (Eng.chain ev i (Eng.chainEnd ev (ev.n - i) i) e).1).2) := if_pos hi
  rw [hb, hce, hch]
theorem batch_done {ev : Eng.Evs} {f i : Nat} {e : Eng} (hi : ¬ i < ev.n) : Eng.batch ev f i e = (e, []) := by
  cases f with
  | zero => rfl
  | succ f => exact if_neg hi
theorem one_ok {ev : Eng.Evs} {e e' : Eng} {i : Nat} (h : ev.do_ e i = (e', 0)) : Eng.one ev e i = (e', []) := by
  unfold Eng.one
  rw [h]; rfl
theorem batchT1 {e e1 : Eng} {t : Transfer} (h : band t.flags 1 = 0) (h1 : e.makeTransfer t = (e1, 0)) : e.batchT [t] = (e1, []) := by
  have a0 : band ((Eng.evT [t]).flags 0) 1 = 0 := h
  have b0 : (Eng.evT [t]).do_ e 0 = (e1, 0) := h1
  have n0 : (Eng.evT [t]).n = 1 := rfl
  show Eng.batch (Eng.evT [t]) 1 0 e = _
  generalize Eng.evT [t] = ev at *
  rw [batch_one (by omega) a0, one_ok b0]
  simp only
  rw [batch_done (by omega)]
  rfl
theorem batchT2 {e e1 e2 : Eng} {t u : Transfer} (h : band t.flags 1 = 0) (k : band u.flags 1 = 0) (h1 : e.makeTransfer t = (e1, 0)) (h2 : e1.makeTransfer u = (e2, 0)) : e.batchT [t, u] = (e2, []) := by
  have a0 : band ((Eng.evT [t, u]).flags 0) 1 = 0 := h
  have a1 : band ((Eng.evT [t, u]).flags (0 + 1)) 1 = 0 := k
  have b0 : (Eng.evT [t, u]).do_ e 0 = (e1, 0) := h1
  have b1 : (Eng.evT [t, u]).do_ e1 (0 + 1) = (e2, 0) := h2
  have n0 : (Eng.evT [t, u]).n = 2 := rfl
  show Eng.batch (Eng.evT [t, u]) 2 0 e = _
  generalize Eng.evT [t, u] = ev at *
  rw [batch_one (by omega) a0, one_ok b0]
  simp only
  rw [batch_one (by omega) a1, one_ok b1]
  simp only
  rw [batch_done (by omega)]
  rfl
/-- An engine of three accounts. -/
def Thr (x y z : Account) (T : List Transfer) (ra rb rc : List Row) (tm now : Int) : Eng := ⟨[x, y, z], T, [ra, rb, rc], tm, now⟩
def acc3 : Account := ⟨3, 1, 0, 0, 0, 0, 0, 3, 0, rootN []⟩
def thr0 : Eng := Thr acc1 acc2 acc3 [] [] [] [] 3 0
theorem thr_apply (p : Option Addr) (c : Nat) : (Eng.empty.apply (reqA p [acctN 1, acctN 2, acctN 3] c)).1.1 = thr0 := by kernel_rfl
theorem thr0_w : EngW 600 thr0 := by
  have := apply_w empty_w (reqA none [acctN 1, acctN 2, acctN 3] 3) (by decide) (by decide) (by decide)
  rw [thr_apply] at this
  exact this
/-- A plain transfer, of an amount that fits. -/
theorem first_plain (e : Eng) (t : Transfer) (d c : Nat) (x y : Account) (n : Num) (hx0 : e.acc.getD d zA = x) (hy0 : e.acc.getD c zA = y) (hp : pendT t = false) (hn : Eng.firstAmount t x y = n) (h64 : band t.flags 64 = 0) (h128 : band t.flags 128 = 0)
    (ho : fitN [x.dq, n] = true) (hi : fitN [y.cq, n] = true) (hdp : x.dp = 0) (hcp : y.cp = 0) (h2 : band x.flags 2 = 0) (h4 : band x.flags 4 = 0) (k2 : band y.flags 2 = 0) (k4 : band y.flags 4 = 0) :
    e.first t d c = (({ e with acc := (e.acc.set d { x with dq := addN [x.dq, n] }).set c { y with cq := addN [y.cq, n] } }).add { t with state := 0 } n d c, 0) := by
  have hp' : ¬ pendT t = true := by rw [hp]; simp
  have e1 : firX t n x = { x with dq := addN [x.dq, n] } := if_neg hp'
  have e2 : firY t n y = { y with cq := addN [y.cq, n] } := if_neg hp'
  have e3 : firO t n x = true := (if_neg hp').trans ho
  have e4 : firI t n y = true := (if_neg hp').trans hi
  have f1 : fitN [x.dp, addN [x.dq, n]] = true := by rw [hdp]; exact (addN_zero _).2.2.1
  have f2 : fitN [y.cp, addN [y.cq, n]] = true := by rw [hcp]; exact (addN_zero _).2.2.1
  rw [first_eq e t d c hx0 hy0 hn e1 e2 e3 e4, if_neg (by simp [f1, f2]), if_neg (by rw [within0 (x := { x with dq := addN [x.dq, n] }) h2 h4]; simp), if_neg (by rw [within0 (x := { y with cq := addN [y.cq, n] }) k2 k4]; simp), hp]
  rw [show firC t 64 { x with dq := addN [x.dq, n] } = { x with dq := addN [x.dq, n] } from if_neg (by simp [h64]), show firC t 128 { y with cq := addN [y.cq, n] } = { y with cq := addN [y.cq, n] } from if_neg (by simp [h128])]
  rfl
theorem least2 (a b : Num) : (leastN [a, b]).toNat = min a.toNat b.toNat := by
  have h : (BitVec.allOnes 128 : Num).toNat = 340282366920938463463374607431768211455 := by decide
  have ha := a.isLt
  unfold leastN
  simp only [List.foldl, least_step]
  split
  · split <;> omega
  · have h1 : (BitVec.allOnes 128 : Num).toNat = a.toNat := by omega
    split <;> omega
theorem least1 (n : Num) : leastN [BitVec.allOnes 128, n] = n := by
  have h : (BitVec.allOnes 128 : Num).toNat = 340282366920938463463374607431768211455 := by decide
  apply BitVec.eq_of_toNat_eq
  rw [least2, h]
  have := n.isLt
  omega
theorem sub_toNat {a b : Num} (h : b.toNat ≤ a.toNat) : (subN a b).toNat = a.toNat - b.toNat := by
  unfold subN
  rw [if_neg (by omega), BitVec.toNat_sub]
  have := a.isLt
  have := b.isLt
  omega
theorem fit_of {a b : Num} (h : a.toNat + b.toNat < 340282366920938463463374607431768211456) : fitN [a, b] = true := by
  unfold fitN
  simp only [List.map_cons, List.map_nil, List.sum_cons, List.sum_nil]
  exact decide_eq_true (by omega)
theorem sum_zero (n : Num) : sumN [0, n] = n := by
  unfold sumN
  rw [if_pos (addN_zero n).2.2.1, (addN_zero n).1]
/-- What is moved. -/
def baN (have_ used want : Num) : Num := if want = 0 then subN have_ used else leastN [want, subN have_ used]
theorem baN_le {h u w : Num} (hu : u.toNat ≤ h.toNat) : u.toNat + (baN h u w).toNat ≤ h.toNat := by
  have hs := sub_toNat hu
  unfold baN
  split
  · omega
  · rw [least2]; omega
def baT1 (c : Bool) (n : Num) : Transfer := ⟨1, if c then 2 else 1, if c then 1 else 2, n, 0, 0, 1, 0, 0, 0, 0⟩
def baT2 (c : Bool) (n : Num) : Transfer := ⟨2, if c then 1 else 2, if c then 2 else 1, n, 0, 0, 1, 0, 0, 0, 0⟩
def baT3 (c : Bool) (n : Num) : Transfer := ⟨3, if c then 3 else 2, if c then 2 else 3, n, 0, 0, 1, if c then 32 else 16, 0, 0, 0⟩
theorem add_thr01 (x y z : Account) (T : List Transfer) (ra rb rc : List Row) (tm now : Int) (t : Transfer) (n : Num) : (Thr x y z T ra rb rc tm now).add t n 0 1 =
    Thr (wRow x (ra ++ [rowOf t.id (tm + 1) (bclr t.flags 1) n x])) (wRow y (rb ++ [rowOf t.id (tm + 1) (bclr t.flags 1) n y])) z (T ++ [{ t with time := tm + 1, tick := now }]) (ra ++ [rowOf t.id (tm + 1) (bclr t.flags 1) n x]) (rb ++ [rowOf t.id (tm + 1) (bclr t.flags 1) n y]) rc (tm + 1) now := rfl
theorem add_thr10 (x y z : Account) (T : List Transfer) (ra rb rc : List Row) (tm now : Int) (t : Transfer) (n : Num) : (Thr x y z T ra rb rc tm now).add t n 1 0 =
    Thr (wRow x (ra ++ [rowOf t.id (tm + 1) (bclr t.flags 1) n x])) (wRow y (rb ++ [rowOf t.id (tm + 1) (bclr t.flags 1) n y])) z (T ++ [{ t with time := tm + 1, tick := now }]) (ra ++ [rowOf t.id (tm + 1) (bclr t.flags 1) n x]) (rb ++ [rowOf t.id (tm + 1) (bclr t.flags 1) n y]) rc (tm + 1) now := rfl
theorem add_thr12 (x y z : Account) (T : List Transfer) (ra rb rc : List Row) (tm now : Int) (t : Transfer) (n : Num) : (Thr x y z T ra rb rc tm now).add t n 1 2 =
    Thr x (wRow y (rb ++ [rowOf t.id (tm + 1) (bclr t.flags 1) n y])) (wRow z (rc ++ [rowOf t.id (tm + 1) (bclr t.flags 1) n z])) (T ++ [{ t with time := tm + 1, tick := now }]) ra (rb ++ [rowOf t.id (tm + 1) (bclr t.flags 1) n y]) (rc ++ [rowOf t.id (tm + 1) (bclr t.flags 1) n z]) (tm + 1) now := rfl
theorem add_thr21 (x y z : Account) (T : List Transfer) (ra rb rc : List Row) (tm now : Int) (t : Transfer) (n : Num) : (Thr x y z T ra rb rc tm now).add t n 2 1 =
    Thr x (wRow y (rb ++ [rowOf t.id (tm + 1) (bclr t.flags 1) n y])) (wRow z (rc ++ [rowOf t.id (tm + 1) (bclr t.flags 1) n z])) (T ++ [{ t with time := tm + 1, tick := now }]) ra (rb ++ [rowOf t.id (tm + 1) (bclr t.flags 1) n y]) (rc ++ [rowOf t.id (tm + 1) (bclr t.flags 1) n z]) (tm + 1) now := rfl
theorem ba_room1 (x y : Account) (h u w : Num) (hx : x.dp = 0) (hq : x.dq = u) (hc : x.cq = h) : Eng.firstAmount (baT3 false w) x y = baN h u w := by
  have hr : roomN x true = subN h u := by unfold roomN; rw [if_pos rfl, hx, hq, hc, sum_zero]
  have b48 : band (baT3 false w).flags 48 ≠ 0 := of_decide_eq_true (by kernel_rfl)
  have b16 : band (baT3 false w).flags 16 ≠ 0 := of_decide_eq_true (by kernel_rfl)
  have b32 : band (baT3 false w).flags 32 = 0 := by kernel_rfl
  unfold Eng.firstAmount baN
  simp only [if_pos b16, if_neg (show ¬ band (baT3 false w).flags 32 ≠ 0 by simp [b32]), hr]
  by_cases h0 : w = 0
  · rw [if_pos ⟨b48, h0⟩, if_pos h0, least1]
  · rw [if_neg (fun h => h0 h.2), if_neg h0]; rfl
theorem ba_room2 (x y : Account) (h u w : Num) (hx : y.cp = 0) (hq : y.cq = u) (hc : y.dq = h) : Eng.firstAmount (baT3 true w) x y = baN h u w := by
  have hr : roomN y false = subN h u := by unfold roomN; rw [if_neg (by decide), hx, hq, hc, sum_zero]
  have b48 : band (baT3 true w).flags 48 ≠ 0 := of_decide_eq_true (by kernel_rfl)
  have b32 : band (baT3 true w).flags 32 ≠ 0 := of_decide_eq_true (by kernel_rfl)
  have b16 : band (baT3 true w).flags 16 = 0 := by kernel_rfl
  unfold Eng.firstAmount baN
  simp only [if_pos b32, if_neg (show ¬ band (baT3 true w).flags 16 ≠ 0 by simp [b16]), hr]
  by_cases h0 : w = 0
  · rw [if_pos ⟨b48, h0⟩, if_pos h0, least1]
  · rw [if_neg (fun h => h0 h.2), if_neg h0]; rfl
/-- An account with rows, whatever their root. -/
def wG (x : Account) (l : List Row) (g : Hash) : Account := { x with rows := l.length, root := g }
section
variable (x y z : Account) (T : List Transfer) (ra rb rc : List Row) (tm now : Int) (t : Transfer) (n : Num)
theorem thr_step01 {dq' cq' : Num} (hdq : addN [x.dq, n] = dq') (hcq : addN [y.cq, n] = cq') (hp : pendT t = false) (hn : Eng.firstAmount t x y = n) (h64 : band t.flags 64 = 0) (h128 : band t.flags 128 = 0) (ho : fitN [x.dq, n] = true) (hi : fitN [y.cq, n] = true) (hdp : x.dp = 0) (hcp : y.cp = 0) (h2 : band x.flags 2 = 0) (h4 : band x.flags 4 = 0) (k2 : band y.flags 2 = 0) (k4 : band y.flags 4 = 0) :
    ∃ g1 g2, (Thr x y z T ra rb rc tm now).first t 0 1 = (Thr (wG { x with dq := dq' } (ra ++ [rowOf t.id (tm + 1) (bclr t.flags 1) n { x with dq := dq' }]) g1) (wG { y with cq := cq' } (rb ++ [rowOf t.id (tm + 1) (bclr t.flags 1) n { y with cq := cq' }]) g2) z
      (T ++ [{ t with state := 0, time := tm + 1, tick := now }]) (ra ++ [rowOf t.id (tm + 1) (bclr t.flags 1) n { x with dq := dq' }]) (rb ++ [rowOf t.id (tm + 1) (bclr t.flags 1) n { y with cq := cq' }]) rc (tm + 1) now, 0) := by
  subst hdq hcq
  rw [first_plain (Thr x y z T ra rb rc tm now) t 0 1 x y n rfl rfl hp hn h64 h128 ho hi hdp hcp h2 h4 k2 k4]
  exact ⟨_, _, rfl⟩
theorem thr_step10 {dq' cq' : Num} (hdq : addN [y.dq, n] = dq') (hcq : addN [x.cq, n] = cq') (hp : pendT t = false) (hn : Eng.firstAmount t y x = n) (h64 : band t.flags 64 = 0) (h128 : band t.flags 128 = 0) (ho : fitN [y.dq, n] = true) (hi : fitN [x.cq, n] = true) (hdp : y.dp = 0) (hcp : x.cp = 0) (h2 : band y.flags 2 = 0) (h4 : band y.flags 4 = 0) (k2 : band x.flags 2 = 0) (k4 : band x.flags 4 = 0) :
    ∃ g1 g2, (Thr x y z T ra rb rc tm now).first t 1 0 = (Thr (wG { x with cq := cq' } (ra ++ [rowOf t.id (tm + 1) (bclr t.flags 1) n { x with cq := cq' }]) g1) (wG { y with dq := dq' } (rb ++ [rowOf t.id (tm + 1) (bclr t.flags 1) n { y with dq := dq' }]) g2) z
      (T ++ [{ t with state := 0, time := tm + 1, tick := now }]) (ra ++ [rowOf t.id (tm + 1) (bclr t.flags 1) n { x with cq := cq' }]) (rb ++ [rowOf t.id (tm + 1) (bclr t.flags 1) n { y with dq := dq' }]) rc (tm + 1) now, 0) := by
  subst hdq hcq
  rw [first_plain (Thr x y z T ra rb rc tm now) t 1 0 y x n rfl rfl hp hn h64 h128 ho hi hdp hcp h2 h4 k2 k4]
  exact ⟨_, _, rfl⟩
theorem thr_step12 {dq' cq' : Num} (hdq : addN [y.dq, n] = dq') (hcq : addN [z.cq, n] = cq') (hp : pendT t = false) (hn : Eng.firstAmount t y z = n) (h64 : band t.flags 64 = 0) (h128 : band t.flags 128 = 0) (ho : fitN [y.dq, n] = true) (hi : fitN [z.cq, n] = true) (hdp : y.dp = 0) (hcp : z.cp = 0) (h2 : band y.flags 2 = 0) (h4 : band y.flags 4 = 0) (k2 : band z.flags 2 = 0) (k4 : band z.flags 4 = 0) :
    ∃ g1 g2, (Thr x y z T ra rb rc tm now).first t 1 2 = (Thr x (wG { y with dq := dq' } (rb ++ [rowOf t.id (tm + 1) (bclr t.flags 1) n { y with dq := dq' }]) g1) (wG { z with cq := cq' } (rc ++ [rowOf t.id (tm + 1) (bclr t.flags 1) n { z with cq := cq' }]) g2)
      (T ++ [{ t with state := 0, time := tm + 1, tick := now }]) ra (rb ++ [rowOf t.id (tm + 1) (bclr t.flags 1) n { y with dq := dq' }]) (rc ++ [rowOf t.id (tm + 1) (bclr t.flags 1) n { z with cq := cq' }]) (tm + 1) now, 0) := by
  subst hdq hcq
  rw [first_plain (Thr x y z T ra rb rc tm now) t 1 2 y z n rfl rfl hp hn h64 h128 ho hi hdp hcp h2 h4 k2 k4]
  exact ⟨_, _, rfl⟩
theorem thr_step21 {dq' cq' : Num} (hdq : addN [z.dq, n] = dq') (hcq : addN [y.cq, n] = cq') (hp : pendT t = false) (hn : Eng.firstAmount t z y = n) (h64 : band t.flags 64 = 0) (h128 : band t.flags 128 = 0) (ho : fitN [z.dq, n] = true) (hi : fitN [y.cq, n] = true) (hdp : z.dp = 0) (hcp : y.cp = 0) (h2 : band z.flags 2 = 0) (h4 : band z.flags 4 = 0) (k2 : band y.flags 2 = 0) (k4 : band y.flags 4 = 0) :
    ∃ g1 g2, (Thr x y z T ra rb rc tm now).first t 2 1 = (Thr x (wG { y with cq := cq' } (rb ++ [rowOf t.id (tm + 1) (bclr t.flags 1) n { y with cq := cq' }]) g1) (wG { z with dq := dq' } (rc ++ [rowOf t.id (tm + 1) (bclr t.flags 1) n { z with dq := dq' }]) g2)
      (T ++ [{ t with state := 0, time := tm + 1, tick := now }]) ra (rb ++ [rowOf t.id (tm + 1) (bclr t.flags 1) n { y with cq := cq' }]) (rc ++ [rowOf t.id (tm + 1) (bclr t.flags 1) n { z with dq := dq' }]) (tm + 1) now, 0) := by
  subst hdq hcq
  rw [first_plain (Thr x y z T ra rb rc tm now) t 2 1 z y n rfl rfl hp hn h64 h128 ho hi hdp hcp h2 h4 k2 k4]
  exact ⟨_, _, rfl⟩
end
def rw1 (id : Num) (tm : Int) (f : Int) (n : Num) (x : Account) : Row := rowOf id tm f n x
/-- Behind the first transfers: what stands on both sides of the first two accounts. -/
def baA (c : Bool) (h : Num) (g1 g2 : Hash) : Eng :=
  if c then Thr (wG { acc1 with cq := h } [rowOf 1 4 0 h { acc1 with cq := h }] g1) (wG { acc2 with dq := h } [rowOf 1 4 0 h { acc2 with dq := h }] g2) acc3 [{ baT1 true h with state := 0, time := 4, tick := 0 }] [rowOf 1 4 0 h { acc1 with cq := h }] [rowOf 1 4 0 h { acc2 with dq := h }] [] 4 0
  else Thr (wG { acc1 with dq := h } [rowOf 1 4 0 h { acc1 with dq := h }] g1) (wG { acc2 with cq := h } [rowOf 1 4 0 h { acc2 with cq := h }] g2) acc3 [{ baT1 false h with state := 0, time := 4, tick := 0 }] [rowOf 1 4 0 h { acc1 with dq := h }] [rowOf 1 4 0 h { acc2 with cq := h }] [] 4 0
def baX (d c : Num) (w : Int) (g : Hash) : Account := ⟨1, 1, 0, 0, d, 0, c, 1, w, g⟩
def baY (d c : Num) (w : Int) (g : Hash) : Account := ⟨2, 1, 0, 0, d, 0, c, 2, w, g⟩
theorem ba_a (c : Bool) (h : Num) : ∃ g1 g2, thr0.makeTransfer (baT1 c h) = (baA c h g1 g2, 0) := by
  obtain ⟨z1, -, z3, -⟩ := addN_zero h
  cases c with
  | false =>
    obtain ⟨g1, g2, s1⟩ := thr_step01 acc1 acc2 acc3 [] [] [] [] 3 0 (baT1 false h) h z1 z1 (by kernel_rfl) (by kernel_rfl) (by kernel_rfl) (by kernel_rfl) z3 z3 rfl rfl (by kernel_rfl) (by kernel_rfl) (by kernel_rfl) (by kernel_rfl)
    exact ⟨g1, g2, (show thr0.makeTransfer (baT1 false h) = thr0.first (baT1 false h) 0 1 by kernel_rfl).trans (s1.trans (by kernel_rfl))⟩
  | true =>
    obtain ⟨g1, g2, s1⟩ := thr_step10 acc1 acc2 acc3 [] [] [] [] 3 0 (baT1 true h) h z1 z1 (by kernel_rfl) (by kernel_rfl) (by kernel_rfl) (by kernel_rfl) z3 z3 rfl rfl (by kernel_rfl) (by kernel_rfl) (by kernel_rfl) (by kernel_rfl)
    exact ⟨g1, g2, (show thr0.makeTransfer (baT1 true h) = thr0.first (baT1 true h) 1 0 by kernel_rfl).trans (s1.trans (by kernel_rfl))⟩
/-- Behind both. -/
def baB (c : Bool) (h u : Num) (g1 g2 : Hash) (ra rb : List Row) : Eng :=
  if c then Thr (baX u h 2 g1) (baY h u 2 g2) acc3 [{ baT1 true h with state := 0, time := 4, tick := 0 }, { baT2 true u with state := 0, time := 5, tick := 0 }] ra rb [] 5 0
  else Thr (baX h u 2 g1) (baY u h 2 g2) acc3 [{ baT1 false h with state := 0, time := 4, tick := 0 }, { baT2 false u with state := 0, time := 5, tick := 0 }] ra rb [] 5 0
theorem ba_b (c : Bool) (h u : Num) (g1 g2 : Hash) : ∃ g3 g4 ra x y, (baA c h g1 g2).makeTransfer (baT2 c u) = (baB c h u g3 g4 ra [rowOf 1 4 0 h x, rowOf 2 5 0 u y], 0) := by
  obtain ⟨z1, -, z3, -⟩ := addN_zero u
  cases c with
  | false =>
    obtain ⟨g3, g4, s1⟩ := thr_step10 (baX h 0 1 g1) (baY 0 h 1 g2) acc3 [{ baT1 false h with state := 0, time := 4, tick := 0 }] [rowOf 1 4 0 h { acc1 with dq := h }] [rowOf 1 4 0 h { acc2 with cq := h }] [] 4 0 (baT2 false u) u z1 z1 (by kernel_rfl) (by kernel_rfl) (by kernel_rfl) (by kernel_rfl) z3 z3 rfl rfl (by kernel_rfl) (by kernel_rfl) (by kernel_rfl) (by kernel_rfl)
    exact ⟨g3, g4, [rowOf 1 4 0 h { acc1 with dq := h }, rowOf 2 5 0 u { baX h 0 1 g1 with cq := u }], { acc2 with cq := h }, { baY 0 h 1 g2 with dq := u }, (show (baA false h g1 g2).makeTransfer (baT2 false u) = (baA false h g1 g2).first (baT2 false u) 1 0 by kernel_rfl).trans (s1.trans (by kernel_rfl))⟩
  | true =>
    obtain ⟨g3, g4, s1⟩ := thr_step01 (baX 0 h 1 g1) (baY h 0 1 g2) acc3 [{ baT1 true h with state := 0, time := 4, tick := 0 }] [rowOf 1 4 0 h { acc1 with cq := h }] [rowOf 1 4 0 h { acc2 with dq := h }] [] 4 0 (baT2 true u) u z1 z1 (by kernel_rfl) (by kernel_rfl) (by kernel_rfl) (by kernel_rfl) z3 z3 rfl rfl (by kernel_rfl) (by kernel_rfl) (by kernel_rfl) (by kernel_rfl)
    exact ⟨g3, g4, [rowOf 1 4 0 h { acc1 with cq := h }, rowOf 2 5 0 u { baX 0 h 1 g1 with dq := u }], { acc2 with dq := h }, { baY h 0 1 g2 with cq := u }, (show (baA true h g1 g2).makeTransfer (baT2 true u) = (baA true h g1 g2).first (baT2 true u) 0 1 by kernel_rfl).trans (s1.trans (by kernel_rfl))⟩
theorem ba_c (c : Bool) (h u w : Num) (hu : u.toNat ≤ h.toNat) (g1 g2 : Hash) (ra : List Row) (x y : Account) : ∃ E, (baB c h u g1 g2 ra [rowOf 1 4 0 h x, rowOf 2 5 0 u y]).makeTransfer (baT3 c w) = (E, 0) ∧ E.amount 3 = baN h u w := by
  have hle := baN_le (w := w) hu
  have hlt := h.isLt
  obtain ⟨v1, -, v3, -⟩ := addN_zero (baN h u w)
  have hfit : fitN [u, baN h u w] = true := fit_of (by omega)
  cases c with
  | false =>
    obtain ⟨g3, g4, s1⟩ := thr_step12 (baX h u 2 g1) (baY u h 2 g2) acc3 [{ baT1 false h with state := 0, time := 4, tick := 0 }, { baT2 false u with state := 0, time := 5, tick := 0 }] ra [rowOf 1 4 0 h x, rowOf 2 5 0 u y] [] 5 0 (baT3 false w) (baN h u w) rfl v1 (by kernel_rfl) (ba_room1 _ _ h u w rfl rfl rfl) (by kernel_rfl) (by kernel_rfl) hfit v3 rfl rfl (by kernel_rfl) (by kernel_rfl) (by kernel_rfl) (by kernel_rfl)
    refine ⟨_, (show (baB false h u g1 g2 ra [rowOf 1 4 0 h x, rowOf 2 5 0 u y]).makeTransfer (baT3 false w) = (baB false h u g1 g2 ra [rowOf 1 4 0 h x, rowOf 2 5 0 u y]).first (baT3 false w) 1 2 by kernel_rfl).trans s1, ?_⟩
    generalize baN h u w = n
    generalize addN [(baY u h 2 g2).dq, n] = q
    kernel_rfl
  | true =>
    obtain ⟨g3, g4, s1⟩ := thr_step21 (baX u h 2 g1) (baY h u 2 g2) acc3 [{ baT1 true h with state := 0, time := 4, tick := 0 }, { baT2 true u with state := 0, time := 5, tick := 0 }] ra [rowOf 1 4 0 h x, rowOf 2 5 0 u y] [] 5 0 (baT3 true w) (baN h u w) v1 rfl (by kernel_rfl) (ba_room2 _ _ h u w rfl rfl rfl) (by kernel_rfl) (by kernel_rfl) v3 hfit rfl rfl (by kernel_rfl) (by kernel_rfl) (by kernel_rfl) (by kernel_rfl)
    refine ⟨_, (show (baB true h u g1 g2 ra [rowOf 1 4 0 h x, rowOf 2 5 0 u y]).makeTransfer (baT3 true w) = (baB true h u g1 g2 ra [rowOf 1 4 0 h x, rowOf 2 5 0 u y]).first (baT3 true w) 2 1 by kernel_rfl).trans s1, ?_⟩
    generalize baN h u w = n
    generalize addN [(baY h u 2 g2).cq, n] = q
    kernel_rfl
theorem balances_law (c : Bool) (h u w : Num) (hu : u.toNat ≤ h.toNat) : (thr0.batchT [baT1 c h, baT2 c u]).2 = [] ∧ ((thr0.batchT [baT1 c h, baT2 c u]).1.batchT [baT3 c w]).2 = [] ∧ ((thr0.batchT [baT1 c h, baT2 c u]).1.batchT [baT3 c w]).1.amount 3 = baN h u w := by
  obtain ⟨g1, g2, e1⟩ := ba_a c h
  obtain ⟨g3, g4, ra, x, y, e2⟩ := ba_b c h u g1 g2
  obtain ⟨E, e3, hE⟩ := ba_c c h u w hu g3 g4 ra x y
  rw [batchT2 (by cases c <;> kernel_rfl) (by cases c <;> kernel_rfl) e1 e2]
  simp only
  rw [batchT1 (by cases c <;> kernel_rfl) e3]
  exact ⟨trivial, rfl, hE⟩
end Go.Proofs.YtpcechnalfaajaaDoor

/- EngineCodes' plain law: what one event leaves. -/
namespace Go.Proofs.YtpcechnalfaajaaDoor
open Go Go.Proofs

theorem i64_bv (y : BitVec 64) : BitVec.ofInt 64 (IntKind.i64.wrap (y.toNat : Int)) = y := by
  have h : IntKind.i64.wrap (y.toNat : Int) = y.toInt := by
    have e1 : (2 : Int) ^ (64 : Nat) = 18446744073709551616 := by decide
    have e2 : (2 : Int) ^ (64 - 1 : Nat) = 9223372036854775808 := by decide
    have e3 : (2 : Nat) ^ 64 = 18446744073709551616 := by decide
    have hy := y.isLt
    rw [BitVec.toInt_eq_toNat_cond]
    simp only [IntKind.wrap, IntKind.bits, IntKind.signed, Bool.true_and, e1, e2]
    rw [e3]
    split
    · rename_i h'
      have := of_decide_eq_true h'
      rw [if_neg (by omega)]
      omega
    · rename_i h'
      have : ¬ ((y.toNat : Int) % 18446744073709551616 ≥ 9223372036854775808) := fun k => h' (decide_eq_true k)
      rw [if_pos (by omega)]
      omega
  rw [h, BitVec.ofInt_toInt]
theorem unlinked (f : Int) : band (bclr f 1) 1 = 0 := by
  show IntKind.i64.wrap ((BitVec.ofInt 64 (IntKind.i64.wrap ((BitVec.ofInt 64 f &&& ~~~ BitVec.ofInt 64 1).toNat : Int)) &&& BitVec.ofInt 64 1).toNat : Int) = 0
  rw [i64_bv, BitVec.and_assoc, show (~~~ BitVec.ofInt 64 1 &&& BitVec.ofInt 64 1) = 0#64 by decide, BitVec.and_zero]
  decide
theorem batchT_one {e : Eng} {t : Transfer} (h : band t.flags 1 = 0) : e.batchT [t] = if (e.makeTransfer t).2 = 0 then ((e.makeTransfer t).1, []) else (e, [(0, (e.makeTransfer t).2)]) := by
  have a0 : band ((Eng.evT [t]).flags 0) 1 = 0 := h
  have b0 : (Eng.evT [t]).do_ e 0 = e.makeTransfer t := rfl
  have n0 : (Eng.evT [t]).n = 1 := rfl
  show Eng.batch (Eng.evT [t]) 1 0 e = _
  generalize Eng.evT [t] = ev at *
  rw [batch_one (by omega) a0, batch_done (by omega)]
  unfold Eng.one
  rw [b0]
  split <;> rfl
theorem batchA_one {e : Eng} {t : Account} (h : band t.flags 1 = 0) : e.batchA [t] = if (e.makeAccount t).2 = 0 then ((e.makeAccount t).1, []) else (e, [(0, (e.makeAccount t).2)]) := by
  have a0 : band ((Eng.evA [t]).flags 0) 1 = 0 := h
  have b0 : (Eng.evA [t]).do_ e 0 = e.makeAccount t := rfl
  have n0 : (Eng.evA [t]).n = 1 := rfl
  show Eng.batch (Eng.evA [t]) 1 0 e = _
  generalize Eng.evA [t] = ev at *
  rw [batch_one (by omega) a0, batch_done (by omega)]
  unfold Eng.one
  rw [b0]
  split <;> rfl
theorem add_tids (e : Eng) (t : Transfer) (n : Num) (d c : Nat) : (e.add t n d c).tids = e.tids ++ [t.id] := by
  show (((_ : Eng).row1 _ _ _ d).row1 _ _ _ c).tids = _
  rw [Eng.row1_tids, Eng.row1_tids]
  simp [Eng.tids]
theorem againT_ne (t old : Transfer) : againT t old ≠ 0 := by
  unfold againT
  repeat' split
  all_goals decide
theorem againA_ne (a old : Account) : againA a old ≠ 0 := by
  unfold againA
  repeat' split
  all_goals decide
theorem first_there {e : Eng} {t : Transfer} {d c : Nat} (h : (e.first t d c).2 = 0) : t.id ∈ (e.first t d c).1.tids := by
  rw [first_eq e t d c rfl rfl rfl rfl rfl rfl rfl] at h ⊢
  split
  · rename_i h1; rw [if_pos h1] at h; cases h
  rename_i h1
  rw [if_neg h1] at h
  split
  · rename_i h2; rw [if_pos h2] at h; cases h
  rename_i h2
  rw [if_neg h2] at h
  split
  · rename_i h3; rw [if_pos h3] at h; cases h
  simp [add_tids]
theorem second_there {e : Eng} {t : Transfer} (h : (e.second t).2 = 0) : t.id ∈ (e.second t).1.tids := by
  cases hp : posN t.pid e.tids with
  | none => rw [second_none hp] at h; cases h
  | some k =>
    rw [second_some hp rfl rfl] at h ⊢
    split
    · rename_i h1; rw [if_pos h1] at h; exact absurd h h1
    · unfold secF
      simp [add_tids]
theorem makeTransfer_there {e : Eng} {t : Transfer} (h : (e.makeTransfer t).2 = 0) : t.id ∈ (e.makeTransfer t).1.tids := by
  unfold Eng.makeTransfer at h ⊢
  split
  · rename_i h1; rw [if_pos h1] at h; exact absurd h h1
  rename_i h1
  rw [if_neg h1] at h
  cases ho : e.transfer t.id with
  | some old => rw [ho] at h; exact absurd h (againT_ne t old)
  | none =>
    rw [ho] at h
    simp only at h ⊢
    split
    · rename_i h2; rw [if_pos h2] at h; cases h
    rename_i h2
    rw [if_neg h2] at h
    split
    · rename_i h3; rw [if_pos h3] at h; exact second_there h
    rename_i h3
    rw [if_neg h3] at h
    cases hd : posN t.debit e.ids with
    | none => rw [hd] at h; cases h
    | some d =>
      rw [hd] at h
      simp only at h ⊢
      cases hc : posN t.credit e.ids with
      | none => rw [hc] at h; cases h
      | some c =>
        rw [hc] at h
        simp only at h ⊢
        split
        · rename_i h4; rw [if_pos h4] at h; cases h
        rename_i h4
        rw [if_neg h4] at h
        split
        · rename_i h5; rw [if_pos h5] at h; cases h
        rename_i h5
        rw [if_neg h5] at h
        split
        · rename_i h6; rw [if_pos h6] at h; cases h
        rename_i h6
        rw [if_neg h6] at h
        split
        · rename_i h7; rw [if_pos h7] at h; cases h
        rename_i h7
        rw [if_neg h7] at h
        exact first_there h
theorem makeTransfer_rule {e : Eng} {t : Transfer} (h : ruleT t ≠ 0) : (e.makeTransfer t).2 = ruleT t := by
  unfold Eng.makeTransfer
  rw [if_pos h]
theorem makeAccount_rule {e : Eng} {t : Account} (h : ruleA t ≠ 0) : (e.makeAccount t).2 = ruleA t := by
  unfold Eng.makeAccount
  rw [if_pos h]
theorem makeAccount_there {e : Eng} {a : Account} (h : (e.makeAccount a).2 = 0) : a.id ∈ (e.makeAccount a).1.ids := by
  unfold Eng.makeAccount at h ⊢
  split
  · rename_i h1; rw [if_pos h1] at h; exact absurd h h1
  rename_i h1
  rw [if_neg h1] at h
  cases ho : e.account a.id with
  | some old => rw [ho] at h; exact absurd h (againA_ne a old)
  | none =>
    rw [ho] at h
    simp only at h ⊢
    split
    · rename_i h2; rw [if_pos h2] at h; cases h
    · simp [Eng.ids]
theorem makeAccount_trs (e : Eng) (a : Account) : (e.makeAccount a).1.trs = e.trs := by
  unfold Eng.makeAccount
  split
  · rfl
  cases ho : e.account a.id with
  | some old => rfl
  | none =>
    simp only
    split <;> rfl
theorem transfer_there {e : Eng} {x : Num} (h : x ∈ e.tids) : (e.transfer x).isSome = true := by
  unfold Eng.transfer
  cases hp : posN x e.tids with
  | none => exact absurd h (posN_none.1 hp)
  | some k => rfl
theorem account_there {e : Eng} {x : Num} (h : x ∈ e.ids) : (e.account x).isSome = true := by
  unfold Eng.account
  cases hp : posN x e.ids with
  | none => exact absurd h (posN_none.1 hp)
  | some k => rfl
/-- What EngineCodes looks at. -/
theorem codes_law (E : Eng) (t : Transfer) (a : Account) (ht : band t.flags 1 = 0) (ha : band a.flags 1 = 0) :
    (((E.batchT [t]).2 = [] ∧ ruleT t = 0 ∧ (((E.batchT [t]).1.batchA [a]).1.transfer t.id).isSome = true) ∨ ∃ c, (E.batchT [t]).2 = [(0, c)] ∧ (ruleT t ≠ 0 → c = ruleT t)) ∧
    ((((E.batchT [t]).1.batchA [a]).2 = [] ∧ ruleA a = 0 ∧ (((E.batchT [t]).1.batchA [a]).1.account a.id).isSome = true) ∨ ∃ c, ((E.batchT [t]).1.batchA [a]).2 = [(0, c)] ∧ (ruleA a ≠ 0 → c = ruleA a)) := by
  have hA : ∀ F : Eng, ((F.batchA [a]).2 = [] ∧ ruleA a = 0 ∧ ((F.batchA [a]).1.account a.id).isSome = true) ∨ ∃ c, (F.batchA [a]).2 = [(0, c)] ∧ (ruleA a ≠ 0 → c = ruleA a) := by
    intro F
    rw [batchA_one ha]
    by_cases h : (F.makeAccount a).2 = 0
    · rw [if_pos h]
      refine .inl ⟨rfl, ?_, account_there (makeAccount_there h)⟩
      exact Classical.byContradiction fun hr => hr (by rw [← makeAccount_rule (e := F) hr]; exact h)
    · rw [if_neg h]
      exact .inr ⟨_, rfl, fun hr => makeAccount_rule hr⟩
  refine ⟨?_, hA _⟩
  have htr : ∀ F : Eng, (F.batchA [a]).1.tids = F.tids := by
    intro F
    rw [batchA_one ha]
    split
    · show (F.makeAccount a).1.trs.map _ = _
      rw [makeAccount_trs]; rfl
    · rfl
  by_cases h : (E.makeTransfer t).2 = 0
  · left
    have h1 := makeTransfer_there h
    have hb : E.batchT [t] = ((E.makeTransfer t).1, []) := by rw [batchT_one ht, if_pos h]
    refine ⟨by rw [hb], ?_, transfer_there (by rw [htr, hb]; exact h1)⟩
    exact Classical.byContradiction fun hr => hr (by rw [← makeTransfer_rule (e := E) hr]; exact h)
  · right
    refine ⟨_, by rw [batchT_one ht, if_neg h], fun hr => makeTransfer_rule hr⟩
end Go.Proofs.YtpcechnalfaajaaDoor

/- EngineTable's plain law. -/
namespace Go.Proofs.YtpcechnalfaajaaDoor
open Go Go.Proofs

def tabA (k : Nat) : Account := ⟨BitVec.ofNat 128 (k + 1), 1, 0, 0, 0, 0, 0, ((k + 1 : Nat) : Int), 0, rootN []⟩
/-- So many accounts. -/
def tabE (j : Nat) : Eng := ⟨(List.range j).map tabA, [], List.replicate j [], (j : Int), 0⟩
theorem tab_ids (j : Nat) : (tabE j).ids = (List.range j).map fun k => BitVec.ofNat 128 (k + 1) := by
  show ((List.range j).map tabA).map (·.id) = _
  rw [List.map_map]; rfl
theorem tab_not (j k : Nat) (hj : j ≤ k) (hk : k < 64) : BitVec.ofNat 128 (k + 1) ∉ (tabE j).ids := by
  rw [tab_ids]
  intro h
  obtain ⟨i, hi, he⟩ := List.mem_map.1 h
  have hi := List.mem_range.1 hi
  have := congrArg BitVec.toNat he
  simp only [BitVec.toNat_ofNat] at this
  rw [Nat.mod_eq_of_lt (by omega), Nat.mod_eq_of_lt (by omega)] at this
  omega
theorem tab_rule (k : Nat) (hk : k < 64) : ruleA (acctN (BitVec.ofNat 128 (k + 1))) = 0 := by
  have h : (List.range 64).all (fun k => decide (ruleA (acctN (BitVec.ofNat 128 (k + 1))) = 0)) = true := by kernel_rfl
  exact of_decide_eq_true (List.all_eq_true.1 h k (List.mem_range.2 hk))
theorem tab_succ (j : Nat) (e : Eng) (he : e = tabE j) : ({ e with time := e.time + 1, acc := e.acc ++ [⟨BitVec.ofNat 128 (j + 1), 1, bclr 0 1, 0, 0, 0, 0, e.time + 1, 0, rootN []⟩], rws := e.rws ++ [[]] } : Eng) = tabE (j + 1) := by
  subst he
  have h0 : bclr 0 1 = 0 := by kernel_rfl
  rw [h0]
  unfold tabE
  simp only [List.range_succ, List.map_append, List.map_cons, List.map_nil, List.replicate_succ']
  rfl
theorem tab_step (k : Nat) (hk : k < 64) : (tabE (min k 32)).makeAccount (acctN (BitVec.ofNat 128 (k + 1))) = if k < 32 then (tabE (k + 1), 0) else (tabE 32, 31) := by
  have hn : (tabE (min k 32)).account (acctN (BitVec.ofNat 128 (k + 1))).id = none := by
    unfold Eng.account
    rw [show (acctN (BitVec.ofNat 128 (k + 1))).id = BitVec.ofNat 128 (k + 1) from rfl, posN_none.2 (tab_not (min k 32) k (Nat.min_le_left _ _) hk)]; rfl
  unfold Eng.makeAccount
  rw [if_neg (by rw [tab_rule k hk]; simp), hn]
  simp only
  have hl : (tabE (min k 32)).acc.length = min k 32 := by simp [tabE]
  rw [hl]
  split
  · rw [if_neg (by omega), show min k 32 = 32 by omega]
  · rw [if_pos (by omega), show min k 32 = k by omega]
    have := tab_succ k (tabE k) rfl
    exact congrArg (fun e => (e, (0 : Int))) this
/-- The accounts of a chunk. -/
def tabL (s n : Nat) : List Account := (List.range n).map fun k => acctN (BitVec.ofNat 128 (s + k + 1))
def tabR (s : Nat) : Nat → Nat → List (Int × Int)
  | 0, _ => []
  | m + 1, i => if s + i < 32 then tabR s m (i + 1) else ((i : Int), 31) :: tabR s m (i + 1)
theorem tab_batch (s n : Nat) (hs : s + n ≤ 64) : ∀ (m i f : Nat), i + m = n → m ≤ f → Eng.batch (Eng.evA (tabL s n)) f i (tabE (min (s + i) 32)) = (tabE (min (s + n) 32), tabR s m i) := by
  intro m
  induction m with
  | zero =>
    intro i f hi _
    have : i = n := by omega
    subst this
    rw [batch_done (by simp [Eng.evA, tabL])]; rfl
  | succ m ih =>
    intro i f hi hf
    obtain ⟨f, rfl⟩ : ∃ g, f = g + 1 := ⟨f - 1, by omega⟩
    have hn : (Eng.evA (tabL s n)).n = n := by simp [Eng.evA, tabL]
    have hg : (tabL s n).getD i zA = acctN (BitVec.ofNat 128 (s + i + 1)) := by
      rw [getD_at (by simp [tabL]; omega)]
      simp [tabL]
    have hfl : band ((Eng.evA (tabL s n)).flags i) 1 = 0 := by
      show band ((tabL s n).getD i zA).flags 1 = 0
      rw [hg]
      show band 0 1 = 0
      kernel_rfl
    have hdo : (Eng.evA (tabL s n)).do_ (tabE (min (s + i) 32)) i = if s + i < 32 then (tabE (s + i + 1), 0) else (tabE 32, 31) := by
      show (tabE (min (s + i) 32)).makeAccount ((tabL s n).getD i zA) = _
      rw [hg, tab_step (s + i) (by omega)]
    rw [batch_one (by omega) hfl]
    unfold Eng.one tabR
    rw [hdo]
    have h1 := ih (i + 1) f (by omega) (by omega)
    split
    · rename_i h
      rw [if_pos rfl]
      rw [show min (s + (i + 1)) 32 = s + i + 1 by omega] at h1
      simp only
      rw [h1]
      simp
    · rename_i h
      rw [if_neg (by decide)]
      rw [show min (s + (i + 1)) 32 = min (s + i) 32 by omega] at h1
      simp only
      rw [h1]
      simp
theorem table_law (s n : Nat) (hs : s + n ≤ 64) : (tabE (min s 32)).batchA (tabL s n) = (tabE (min (s + n) 32), tabR s n 0) := by
  have h := tab_batch s n hs n 0 n (by omega) (Nat.le_refl _)
  unfold Eng.batchA
  rw [show (tabL s n).length = n by simp [tabL]]
  exact h
theorem tabR_mem (s : Nat) : ∀ (m i : Nat), ∀ r ∈ tabR s m i, r.2 = 31 ∧ 32 ≤ (s : Int) + r.1 ∧ 0 ≤ r.1 ∧ r.1 < i + m := by
  intro m
  induction m with
  | zero => intro i r h; cases h
  | succ m ih =>
    intro i r h
    unfold tabR at h
    split at h
    · have := ih (i + 1) r h
      refine ⟨this.1, this.2.1, this.2.2.1, ?_⟩
      have := this.2.2.2
      omega
    · rcases List.mem_cons.1 h with h | h
      · subst h
        exact ⟨rfl, by simp only; omega, by simp only; omega, by simp only; omega⟩
      · have := ih (i + 1) r h
        refine ⟨this.1, this.2.1, this.2.2.1, ?_⟩
        have := this.2.2.2
        omega
theorem tabR_len (s : Nat) : ∀ (m i : Nat), (tabR s m i).length = (s + i + m - 32) - (s + i - 32) := by
  intro m
  induction m with
  | zero => intro i; simp [tabR]
  | succ m ih =>
    intro i
    unfold tabR
    split
    · rw [ih]; omega
    · rw [List.length_cons, ih]; omega
theorem tab_w : ∀ j, j ≤ 32 → EngW 600 (tabE j) := by
  intro j hj
  induction j with
  | zero => exact (show tabE 0 = Eng.empty from rfl) ▸ empty_w.mono (by omega)
  | succ j ih =>
    have h := ih (by omega)
    have h1 := makeAccount_w h (acctN (BitVec.ofNat 128 (j + 1)))
    have h2 := tab_step j (by omega)
    rw [show min j 32 = j by omega, if_pos (by omega)] at h2
    rw [h2] at h1
    have hn : (tabE (j + 1)).ids.Nodup := h1.hn
    exact { h1 with
      lw := fun l hl => by
        have : l = [] := (List.mem_replicate.1 hl).2
        rw [this]; exact Nat.zero_le _
      htm := ⟨by show (0 : Int) ≤ ((j + 1 : Nat) : Int); omega, by show ((j + 1 : Nat) : Int) ≤ ((600 : Nat) : Int); omega⟩ }
end Go.Proofs.YtpcechnalfaajaaDoor

/- The law EngineTable. -/
namespace Go.Proofs.YtpcechnalfaajaaDoor
open Go Go.Proofs

theorem band63 (w : Int) : 0 ≤ band w 63 ∧ band w 63 ≤ 63 := by
  have h : (BitVec.ofInt 64 w &&& BitVec.ofInt 64 63).toNat ≤ 63 := by
    rw [BitVec.toNat_and]
    exact Nat.and_le_right
  have hw : IntKind.i64.wrap ((BitVec.ofInt 64 w &&& BitVec.ofInt 64 63).toNat : Int) = ((BitVec.ofInt 64 w &&& BitVec.ofInt 64 63).toNat : Int) := wrap_in (by omega)
  show 0 ≤ IntKind.i64.wrap ((BitVec.ofInt 64 w &&& BitVec.ofInt 64 63).toNat : Int) ∧ IntKind.i64.wrap ((BitVec.ofInt 64 w &&& BitVec.ofInt 64 63).toNat : Int) ≤ 63
  rw [hw]
  omega
theorem u64_nat (n : Nat) (h : n < 1000000) : IntKind.u64.wrap (n : Int) = (n : Int) := by
  have e1 : (2 : Int) ^ (64 : Nat) = 18446744073709551616 := by decide
  simp only [IntKind.wrap, IntKind.bits, IntKind.signed, Bool.false_and, e1]
  simp
  omega
theorem resT_get (L : List (Int × Int)) (k : Nat) (h : k < L.length) : getV true (L.flatMap encRes) (k * 2) 2 = some (.agg (encRes L[k]).toArray) :=
  flat_get encRes 2 (fun _ => rfl) L k 0 2 true _ h (getV_whole rfl)
theorem tab_acc (j : Nat) (hj : j ≤ 32) : (tabE j).accounts.length = j := by
  unfold Eng.accounts
  rw [List.length_map, idx_len (tab_w j hj).hn, tab_ids]
  simp
theorem tab_snoc (s j : Nat) : tabL s (j + 1) = tabL s j ++ [acctN (BitVec.ofNat 128 (s + j + 1))] := by
  unfold tabL
  rw [List.range_succ, List.map_append]; rfl
theorem tab_rws (j : Nat) : (tabE j).rws.length = j := by simp [tabE]
set_option maxHeartbeats 4000000 in
theorem table_tr (n0 : Int) (κ : Kap) (hκ : Laid κ) (cs : List HProp) : Tr Tryd.prog 10 [.int .i64 n0] κ cs (.bool true) cs := by
  refine .enter Tryd.func10 rfl rfl ?_
  repeat refine .seq ?_
  refine .reg ?_
  refine .as ?_
  refine .go ?_
  repeat refine .seq ?_
  refine .reg ?_
  refine .cl (fit_tr κ hκ _) ?_
  refine .nt ?_
  refine .go ?_
  refine .cond rfl (fun hc => by cases hc) (fun hc => ?_)
  have h63 := band63 n0
  refine .go ?_
  repeat refine .seq ?_
  refine .reg ?_
  refine .mv ?_
  refine .an ?_
  generalize hb0 : bandK .i64 n0 63 = z at *
  have h63 : 0 ≤ z ∧ z ≤ 63 := by rw [← hb0]; exact h63
  obtain ⟨N, hN⟩ : ∃ N : Nat, z + 1 = (N : Int) := ⟨(z + 1).toNat, by omega⟩
  refine .ad ?_
  rw [hN]
  have hN64 : 1 ≤ N ∧ N ≤ 64 := by omega
  refine .as ?_
  refine .go ?_
  repeat refine .seq ?_
  refine .reg ?_
  refine .ce (newO_tr κ _) (fun x hx => ?_)
  generalize x.1 = b at *
  generalize x.2 = i0 at *
  refine .as ?_
  refine .go ?_
  repeat refine .seq ?_
  refine .reg ?_
  refine .as ?_
  refine .go ?_
  repeat refine .seq ?_
  refine .reg ?_
  refine .as ?_
  refine .go ?_
  repeat refine .seq ?_
  refine .block ?_
  refine .lp (fun x : Nat × EngI => [(0, .int .i64 N), (2, .bool false), (3, .pointer (some ⟨b, 0, none⟩)), (4, .int .i64 (min (8 * x.1) N - 32 : Nat)), (5, .int .i64 (8 * x.1 : Nat))])
    (fun x => engO b (tabE (min (min (8 * x.1) N) 32)) x.2 cs) (fun x => 8 * x.1 < N + 8 ∧ x.2.lb.length = min (min (8 * x.1) N) 32) (fun x => 100 - x.1) (0, i0) ⟨by omega, by rw [hx, show min (min (8 * 0) N) 32 = 0 by omega]; rfl⟩ (by rw [show min (8 * (0, i0).1) N - 32 = 0 by show min (8 * 0) N - 32 = 0; omega]; exact (by repeat (first | exact trivial | refine ⟨rfl, ?_⟩))) (by
      have : tabE (min (min (8 * (0, i0).1) N) 32) = Eng.empty := by rw [show min (min (8 * (0, i0).1) N) 32 = 0 by show min (min (8 * 0) N) 32 = 0; omega]; rfl
      rw [this]) fun x hx => ?_
  obtain ⟨c, ik⟩ := x
  obtain ⟨hc8, hik⟩ := hx
  simp only at hc8 hik
  refine .fra (fr' := [(0, .int .i64 N), (2, .bool false), (3, .pointer (some ⟨b, 0, none⟩)), (4, .int .i64 (min (8 * c) N - 32 : Nat)), (5, .int .i64 (8 * c : Nat))]) (by repeat (first | exact trivial | refine ⟨rfl, ?_⟩)) ?_
  refine .sat (cs' := engO b (tabE (min (min (8 * c) N) 32)) ik cs) (fun w hs => hs) ?_
  repeat refine .seq ?_
  refine .reg ?_
  refine .mv ?_
  refine .mv ?_
  refine .lt ?_
  refine .go ?_
  repeat refine .seq ?_
  refine .cond rfl (fun hc => ?_) (fun hc => ?_)
  · have hcN : 8 * c < N := by have : ((8 * c : Nat) : Int) < N := of_decide_eq_true hc; omega
    obtain ⟨s, hs⟩ : ∃ s, 8 * c = s := ⟨_, rfl⟩
    have hsm : min (8 * c) N = s := by omega
    obtain ⟨m, hm⟩ : ∃ m, min (s + 8) N = s + m := ⟨min (s + 8) N - s, by omega⟩
    have hnext : min (8 * (c + 1)) N = s + m := by omega
    rw [hsm] at hik ⊢
    rw [hs]
    have hs64 : s + m ≤ 64 := by omega
    have hm1 : 1 ≤ m ∧ m ≤ 8 := by omega
    refine .go ?_
    repeat refine .seq ?_
    refine .block ?_
    repeat refine .seq ?_
    refine .reg ?_
    refine .bd (r := reqC (reqA none [] 0)) ?_ ⟨inferInstance, inferInstance, rfl, by kernel_rfl⟩
    refine .al fun b6 => ?_
    refine .stw (v := .agg (reqC (reqA none [] 0)).toArray) ?_
    rw [vc_agg]
    refine .sat (cs' := pts b6 (41, reqC (reqA none [] 0)) :: sl 46 (.slice none 0 0) (37, []) :: engO b (tabE (min s 32)) ik cs) (fun w hs => (hs.nilS 46 37).pm 2 [1, 0]) ?_
    refine .go ?_
    refine .jn (ι := Option Addr × Nat) (fun _ => [(0, .int .i64 N), (2, .bool false), (3, .pointer (some ⟨b, 0, none⟩)), (4, .int .i64 (s - 32 : Nat)), (5, .int .i64 s), (6, .pointer (some ⟨b6, 0, none⟩))])
      (fun x => pts b6 (41, reqC (reqA x.1 (tabL s m) x.2)) :: sl 46 (.slice x.1 (tabL s m).length x.2) (37, (tabL s m).flatMap encA) :: engO b (tabE (min s 32)) ik cs) (fun _ => True) ?_ fun x _ => ?_
    · repeat refine .seq ?_
      refine .reg ?_
      refine .mv ?_
      refine .as ?_
      refine .go ?_
      refine .block ?_
      refine .lp (fun x : Nat × Option Addr × Nat => [(0, .int .i64 N), (2, .bool false), (3, .pointer (some ⟨b, 0, none⟩)), (4, .int .i64 (s - 32 : Nat)), (5, .int .i64 s), (6, .pointer (some ⟨b6, 0, none⟩)), (7, .int .i64 (s + x.1 : Nat))])
        (fun x => pts b6 (41, reqC (reqA x.2.1 (tabL s x.1) x.2.2)) :: sl 46 (.slice x.2.1 (tabL s x.1).length x.2.2) (37, (tabL s x.1).flatMap encA) :: engO b (tabE (min s 32)) ik cs) (fun x => x.1 ≤ m) (fun x => m - x.1) (0, none, 0) (Nat.zero_le _) (by repeat (first | exact trivial | refine ⟨rfl, ?_⟩)) rfl fun x hj => ?_
      obtain ⟨j, pB, cB⟩ := x
      simp only at hj
      refine .fra (fr' := [(0, .int .i64 N), (2, .bool false), (3, .pointer (some ⟨b, 0, none⟩)), (4, .int .i64 (s - 32 : Nat)), (5, .int .i64 s), (6, .pointer (some ⟨b6, 0, none⟩)), (7, .int .i64 (s + j : Nat))]) (by repeat (first | exact trivial | refine ⟨rfl, ?_⟩)) ?_
      have hBl : (tabL s j).length = j := by simp [tabL]
      refine .sat (cs' := pts b6 (41, reqC (reqA pB (tabL s j) cB)) :: sl 46 (.slice pB (tabL s j).length cB) (37, (tabL s j).flatMap encA) :: engO b (tabE (min s 32)) ik cs) (fun w hs => hs) ?_
      have hmn : minI ((s : Int) + 8) N = ((s + m : Nat) : Int) := by unfold minI; split <;> omega
      repeat refine .seq ?_
      refine .reg ?_
      refine .mv ?_
      refine .mv ?_
      refine .ad ?_
      refine .mv ?_
      refine .mn ?_
      rw [hmn]
      refine .lt ?_
      refine .go ?_
      repeat refine .seq ?_
      refine .cond rfl (fun hc => ?_) (fun hc => ?_)
      · have hjm : j < m := by have : ((s + j : Nat) : Int) < (s + m : Nat) := of_decide_eq_true hc; omega
        have hsn := tab_snoc s j
        generalize tabL s j = B at *
        refine .go ?_
        repeat refine .seq ?_
        refine .block ?_
        repeat refine .seq ?_
        refine .regD [(b6, 0, reqC (reqA pB B cB))] [10] ?_
        refine .fa 0 ?_
        refine .ld 1 (v := .slice pB B.length cB) ?_
        refine .mv 2 ?_
        refine .ad 3 ?_
        refine .cv 4 ?_
        rw [show ((s + j : Nat) : Int) + 1 = ((s + j + 1 : Nat) : Int) by omega, u64_nat _ (by omega)]
        refine .cl 5 (of_tr (s + j + 1) (by omega) κ _) ?_
        refine .bd 6 (r := encA (acctN (BitVec.ofNat 128 (s + j + 1)))) ?_ rfl ⟨inferInstance, inferInstance, rfl, by kernel_rfl⟩
        generalize acctN (BitVec.ofNat 128 (s + j + 1)) = a at *
        refine .bs1 7 (v := .agg (encA a).toArray) (m := 46) (fun b40 => ?_) (encA_len _)
        rw [vc_agg]
        refine .ap 8 (src := encA a) (q := some ⟨b40, 0, none⟩) (k := 1) (m := 46) (.inr ⟨b40, 0, rfl, .ofRd (h := .head)⟩) (fun p1 c1 => ?_) (encA_len _) (encA_one _)
        rw [show B.length + 1 = (B ++ [a]).length by simp, show B.flatMap encA ++ encA a = (B ++ [a]).flatMap encA by simp, ← hsn]
        refine .fa 9 ?_
        refine .sx 10 (r' := reqC (reqA p1 (tabL s (j + 1)) c1)) rfl ?_
        refine .go ?_
        refine .reg ?_
        refine .mv ?_
        refine .ad ?_
        refine .as ?_
        exact .nil fun aa w hf hs => ⟨(j + 1, p1, c1), hjm, by show m - (j + 1) < m - j; omega, hf.to (by repeat (first | exact trivial | refine ⟨rfl, ?_⟩)), hs.pm 3 [1, 2]⟩
      · have hjm : j = m := by have : ¬ ((s + j : Nat) : Int) < (s + m : Nat) := of_decide_eq_false hc; omega
        subst hjm
        exact .xnil fun aa w hf hs => ⟨(pB, cB), trivial, hf.to (by repeat (first | exact trivial | refine ⟨rfl, ?_⟩)), hs⟩
    obtain ⟨pB, cB⟩ := x
    have hTl : (tabL s m).length = m := by simp [tabL]
    have hlaw := table_law s m hs64
    have hw0 := tab_w (min s 32) (by omega)
    have hrw := tab_rws (min s 32)
    refine .sat (cs' := pts b6 (41, reqC (reqA pB (tabL s m) cB)) :: sl 46 (.slice pB (tabL s m).length cB) (37, (tabL s m).flatMap encA) :: engO b (tabE (min s 32)) ik cs) (fun w hs => hs) ?_
    refine .fra (fr' := [(0, .int .i64 N), (2, .bool false), (3, .pointer (some ⟨b, 0, none⟩)), (4, .int .i64 (s - 32 : Nat)), (5, .int .i64 s), (6, .pointer (some ⟨b6, 0, none⟩))]) (by repeat (first | exact trivial | refine ⟨rfl, ?_⟩)) ?_
    generalize tabL s m = T at *
    refine .slp (p := pB) (cap := cB) (sz := 46) (n0 := T.length) (by omega) (fun br hbr _ => ?_)
    subst hbr
    generalize tabE (min s 32) = E at *
    have hT := applyF_tr [pts b6 (41, reqC (reqA (some ⟨br, 0, none⟩) T cB)), sl 46 (.slice (some ⟨br, 0, none⟩) T.length cB) (37, T.flatMap encA)] b E ik (by rw [hik, hrw]) (m := 600) (by omega) hw0 (reqA (some ⟨br, 0, none⟩) T cB) (by simp [reqA]) (by show T.length < 1000; omega) (by simp [reqA]) κ hκ [sl 46 (.slice (some ⟨br, 0, none⟩) T.length cB) (37, T.flatMap encA)] cs ⟨[_], _, rfl⟩
      (.inr ⟨br, 0, rfl, inferInstance⟩) (.inl rfl)
    have k1 : (E.apply (reqA (some ⟨br, 0, none⟩) T cB)).1 = E.batchA T := rfl
    have k3 : (E.apply (reqA (some ⟨br, 0, none⟩) T cB)).2 = 0 := rfl
    rw [k1, k3, hlaw] at hT
    have hRm := tabR_mem s m 0
    have hRl := tabR_len s m 0
    generalize tabR s m 0 = R at *
    repeat refine .seq ?_
    refine .reg ?_
    refine .mv ?_
    refine .ldw ?_
    refine .ce hT (fun z hz => ?_)
    generalize z.1 = i2 at *
    generalize z.2.1 = p2 at *
    generalize z.2.2 = c2 at *
    refine .sat (cs' := sl 2 (.slice p2 R.length c2) (45, R.flatMap encRes) :: engO b (tabE (min (s + m) 32)) i2 cs) (fun w hs => hs.pm 3 [0]) ?_
    refine .mv ?_
    refine .ex ?_
    refine .ex ?_
    refine .as ?_
    refine .as ?_
    refine .go ?_
    refine .slq (p := p2) (n0 := R.length) (cap := c2) (sz := 2) (fun hp2 => ?_)
    repeat refine .seq ?_
    refine .reg ?_
    refine .mv ?_
    refine .ln ?_
    refine .mv ?_
    refine .go ?_
    repeat refine .seq ?_
    refine .block ?_
    refine .lp (fun k : Nat => [(0, .int .i64 N), (2, .bool false), (3, .pointer (some ⟨b, 0, none⟩)), (4, .int .i64 (s - 32 + k : Nat)), (5, .int .i64 s), (49, .slice p2 R.length c2), (50, .int .i64 R.length), (51, .int .i64 k)])
      (fun _ => sl 2 (.slice p2 R.length c2) (45, R.flatMap encRes) :: engO b (tabE (min (s + m) 32)) i2 cs) (fun k => k ≤ R.length) (fun k => R.length - k) 0 (Nat.zero_le _) (by repeat (first | exact trivial | refine ⟨rfl, ?_⟩)) rfl fun k hk => ?_
    repeat refine .seq ?_
    refine .reg ?_
    refine .lt ?_
    refine .go ?_
    repeat refine .seq ?_
    refine .cond rfl (fun hc => ?_) (fun hc => ?_)
    · have hkl : k < R.length := by have : (k : Int) < R.length := of_decide_eq_true hc; omega
      obtain ⟨q2, rfl⟩ : ∃ b, p2 = some ⟨b, 0, none⟩ := hp2.resolve_left (by omega)
      obtain ⟨g1, g2, g3, g4⟩ := hRm R[k] (List.getElem_mem hkl)
      have hv := resT_get R k hkl
      generalize R[k] = r at *
      refine .go ?_
      repeat refine .seq ?_
      refine .block ?_
      repeat refine .seq ?_
      refine .reg ?_
      refine .ix ?_
      refine .lx hv ?_
      refine .al fun b11 => ?_
      refine .stw (v := .agg (encRes r).toArray) ?_
      rw [vc_agg]
      refine .go ?_
      repeat refine .seq ?_
      refine .reg ?_
      refine .fa ?_
      refine .ld (v := .int .i64 r.2) ?_
      rw [g1]
      refine .ne ?_
      refine .mv ?_
      refine .mv ?_
      refine .fa ?_
      refine .ld (v := .int .i64 r.1) ?_
      refine .ad ?_
      refine .lt ?_
      rw [decide_eq_false (p := (s : Int) + r.1 < 32) (by omega)]
      first | refine .pt ?_ | refine .pf ?_
      refine .go ?_
      refine .cond rfl (fun hc => by cases hc) (fun hc => ?_)
      refine .go ?_
      repeat refine .seq ?_
      refine .reg ?_
      refine .mv ?_
      refine .ad ?_
      refine .as ?_
      refine .go ?_
      refine .reg ?_
      refine .ad ?_
      refine .mv ?_
      exact .nil fun aa w hf hs => ⟨k + 1, hkl, by omega, hf.to (by repeat (first | exact trivial | refine ⟨rfl, ?_⟩)), hs.rows⟩
    · have hkl : k = R.length := by have : ¬ (k : Int) < R.length := of_decide_eq_false hc; omega
      subst hkl
      refine .xgo ?_
      refine .reg ?_
      refine .mv ?_
      refine .ad ?_
      refine .as ?_
      refine .nil fun aa w hf hs => ⟨(c + 1, i2), ⟨by omega, by show i2.lb.length = min (min (8 * (c + 1)) N) 32; rw [hnext, hz]; exact tab_rws _⟩, by show 100 - (c + 1) < 100 - c; omega, ?_, ?_⟩
      · show Fr _ aa [(0, .int .i64 N), (2, .bool false), (3, .pointer (some ⟨b, 0, none⟩)), (4, .int .i64 (min (8 * (c + 1)) N - 32 : Nat)), (5, .int .i64 (8 * (c + 1) : Nat))]
        rw [hnext, show s + m - 32 = s - 32 + R.length by rw [hRl]; omega, show ((8 * (c + 1) : Nat) : Int) = (s : Int) + 8 by omega]
        exact hf.to (by repeat (first | exact trivial | refine ⟨rfl, ?_⟩))
      · show Sat κ w (engO b (tabE (min (min (8 * (c + 1)) N) 32)) i2 cs)
        rw [hnext]
        exact hs.rows
  have hcN : min (8 * c) N = N := by have : ¬ ((8 * c : Nat) : Int) < N := of_decide_eq_false hc; omega
  rw [hcN] at hik ⊢
  have hw0 := tab_w (min N 32) (by omega)
  have hal := tab_acc (min N 32) (by omega)
  generalize tabE (min N 32) = E at *
  have hmx : maxI ((N : Int) - 32) 0 = ((N - 32 : Nat) : Int) := by unfold maxI; split <;> omega
  have hmn : minI (N : Int) 32 = ((min N 32 : Nat) : Int) := by unfold minI; split <;> omega
  refine .xgo ?_
  repeat refine .seq ?_
  refine .reg ?_
  refine .mv ?_
  refine .mv ?_
  refine .sb ?_
  refine .mx ?_
  rw [hmx]
  refine .eq ?_
  rw [decide_eq_true (p := ((N - 32 : Nat) : Int) = ((N - 32 : Nat) : Int)) rfl]
  refine .mv ?_
  refine .mv ?_
  refine .ce (accounts_tr b E ik hw0.idx.1 hw0.idx.2 κ _) (fun j1 _ => ?_)
  rw [hal]
  refine .ln ?_
  refine .mv ?_
  refine .mn ?_
  rw [hmn]
  refine .eq ?_
  rw [decide_eq_true (p := ((min N 32 : Nat) : Int) = ((min N 32 : Nat) : Int)) rfl]
  first | refine .pt ?_ | refine .pf ?_
  refine .as ?_
  refine .go ?_
  refine .r1 fun w hs => ?_
  exact ⟨rfl, eng_drop hs.rows⟩
end Go.Proofs.YtpcechnalfaajaaDoor

/- EngineWaits' plain law. -/
namespace Go.Proofs.YtpcechnalfaajaaDoor
open Go Go.Proofs

def waN (i : Nat) : Num := BitVec.ofNat 128 (i + 1)
def waT (τ : Nat → Int) (i : Nat) : Transfer := ⟨waN i, 1, 2, waN i, 0, τ i, 1, 2, 0, 0, 0⟩
/-- A transfer as it is kept. -/
def waK (τ : Nat → Int) (i : Nat) (s : Int) : Transfer := ⟨waN i, 1, 2, waN i, 0, τ i, 1, 2, ((3 + i : Nat) : Int), 0, s⟩
def tri : Nat → Nat
  | 0 => 0
  | j + 1 => tri j + (j + 1)
/-- What is held of the first ones, those that are over being gone. -/
def hsum (ov : Nat → Bool) : Nat → Nat
  | 0 => 0
  | k + 1 => hsum ov k + (if ov k then 0 else k + 1)
def keyR (r : Row) : Num × Int × Num := (r.tr, r.event, r.amount)
def findK (a : Num) : List (Num × Int × Num) → Num
  | [] => 0
  | r :: t => if r.1 = a ∧ r.2.1 ≥ 0 then r.2.2 else findK a t
theorem findRow_key (a : Num) : ∀ l : List Row, Eng.findRow a l = findK a (l.map keyR) := by
  intro l
  induction l with
  | nil => rfl
  | cons r t ih => simp only [Eng.findRow, List.map_cons, findK, keyR, ih]
theorem findK_made (k : Nat) (Y : List (Num × Int × Num)) : ∀ L : List Nat, k ∈ L → findK (waN k) (L.map (fun i => (waN i, (2 : Int), waN i)) ++ Y) = waN k := by
  intro L
  induction L with
  | nil => intro h; cases h
  | cons i t ih =>
    intro h
    simp only [List.map_cons, List.cons_append, findK]
    by_cases e : waN i = waN k
    · rw [if_pos ⟨e, by decide⟩, e]
    · rw [if_neg (fun h => e h.1)]
      rcases List.mem_cons.1 h with rfl | h
      · exact absurd rfl e
      · exact ih h
theorem waN_toNat (i : Nat) (h : i < 1000) : (waN i).toNat = i + 1 := by
  unfold waN
  rw [BitVec.toNat_ofNat, Nat.mod_eq_of_lt (by omega)]
theorem waN_inj {i j : Nat} (hi : i < 1000) (hj : j < 1000) (h : waN i = waN j) : i = j := by
  have := congrArg BitVec.toNat h
  rw [waN_toNat i hi, waN_toNat j hj] at this
  omega
theorem waN_not (j : Nat) (hj : j < 1000) : waN j ∉ (List.range j).map waN := by
  intro h
  obtain ⟨i, hi, he⟩ := List.mem_map.1 h
  have hi := List.mem_range.1 hi
  have := waN_inj (by omega) hj he
  omega
theorem posN_wa (n k : Nat) (hn : n < 1000) (hk : k < n) : posN (waN k) ((List.range n).map waN) = some k := by
  cases h : posN (waN k) ((List.range n).map waN) with
  | none => exact absurd (List.mem_map.2 ⟨k, List.mem_range.2 hk, rfl⟩) (posN_none.1 h)
  | some j =>
    obtain ⟨h1, h2⟩ := posN_some h
    simp only [List.length_map, List.length_range] at h1
    simp only [List.getElem_map, List.getElem_range] at h2
    rw [waN_inj (by omega) (by omega) h2]
theorem tri_succ (j : Nat) : tri (j + 1) = tri j + (j + 1) := rfl
theorem hsum_succ (ov : Nat → Bool) (k : Nat) : hsum ov (k + 1) = hsum ov k + (if ov k then 0 else k + 1) := rfl
theorem tri_le {a b : Nat} (h : a ≤ b) : tri a ≤ tri b := by
  induction h with
  | refl => exact Nat.le_refl _
  | step _ ih => rw [tri_succ]; omega
theorem tri_small (n : Nat) (h : n ≤ 8) : tri n ≤ 36 := Nat.le_trans (tri_le h) (by decide)
theorem wa_tids (τ : Nat → Int) (n : Nat) (s : Nat → Int) : ((List.range n).map fun i => waK τ i (s i)).map (·.id) = (List.range n).map waN := by
  rw [List.map_map]; rfl
/-- A plain transfer between two accounts comes to its sums. -/
theorem two_mk (x y : Account) (T : List Transfer) (ra rb : List Row) (tm now : Int) (t : Transfer) (hx : x.id = 1) (hy : y.id = 2) (lx : x.ledger = 1) (ly : y.ledger = 1) (fx : x.flags = 0) (fy : y.flags = 0) (hd : t.debit = 1) (hc : t.credit = 2) (hl : t.ledger = 1) (hp : t.pid = 0) (hr : ruleT t = 0) (hn : t.id ∉ T.map (·.id)) (hT : T.length ≠ 256) :
    (Two x y T ra rb tm now).makeTransfer t = (Two x y T ra rb tm now).first t 0 1 := by
  have h0 : (Two x y T ra rb tm now).transfer t.id = none := by
    unfold Eng.transfer
    rw [show (Two x y T ra rb tm now).tids = T.map (·.id) from rfl, posN_none.2 hn]; rfl
  have hids : (Two x y T ra rb tm now).ids = [1, 2] := by
    show [x.id, y.id] = _
    rw [hx, hy]
  unfold Eng.makeTransfer
  rw [if_neg (by simp [hr]), h0]
  simp only
  rw [if_neg (show ¬ (Two x y T ra rb tm now).trs.length = 256 from hT), if_neg (by simp [hp]), hids, hd, hc, show posN 1 [1, 2] = some 0 from by decide, show posN 2 [1, 2] = some 1 from by decide]
  simp only
  rw [if_neg (by decide)]
  have a0 : (Two x y T ra rb tm now).acc.getD 0 zA = x := rfl
  have a1 : (Two x y T ra rb tm now).acc.getD 1 zA = y := rfl
  rw [a0, a1, if_neg (by simp [lx, ly, hl]), fx, fy, if_neg (by rw [show band 0 8 = 0 by kernel_rfl]; simp), if_neg (by rw [show band 0 8 = 0 by kernel_rfl]; simp)]
theorem wa_rule (τ : Nat → Int) (i : Nat) (h : i < 1000) : ruleT (waT τ i) = 0 := by
  have h0 : ¬ (waT τ i).id = 0 := by
    intro e
    have := congrArg BitVec.toNat e
    rw [show (waT τ i).id = waN i from rfl, waN_toNat i h] at this
    simp at this
  have b2 : band 2 2 = 2 := by kernel_rfl
  have b192 : band 2 192 = 0 := by kernel_rfl
  have b48 : band 2 48 = 0 := by kernel_rfl
  have b12 : band 2 12 = 0 := by kernel_rfl
  have hone : oneF 2 [2, 4, 8] = true := by kernel_rfl
  have hs : secondT (waT τ i) = false := by
    unfold secondT
    rw [show (waT τ i).flags = 2 from rfl, b12]; rfl
  unfold ruleT
  rw [if_neg h0, hs, show (waT τ i).flags = 2 from rfl, show (waT τ i).pid = 0 from rfl, b2, b192, b48, hone]
  simp
theorem firC_n (t : Transfer) (m : Int) (x : Account) (h : band t.flags m = 0) : firC t m x = x := if_neg (by rw [h]; simp)
/-- Behind the first transfers. -/
structure WInv (τ : Nat → Int) (j : Nat) (e : Eng) : Prop where
  ex : ∃ x y ra rb, e = Two x y ((List.range j).map fun i => waK τ i 1) ra rb ((2 + j : Nat) : Int) 0 ∧ x.id = 1 ∧ y.id = 2 ∧ x.ledger = 1 ∧ y.ledger = 1 ∧ x.flags = 0 ∧ y.flags = 0 ∧ x.dq = 0 ∧ y.cq = 0 ∧ x.dp.toNat = tri j ∧ y.cp.toNat = tri j ∧ x.rows = (ra.length : Int) ∧ ra.map keyR = (List.range j).map fun i => (waN i, (2 : Int), waN i)
theorem wa_step (τ : Nat → Int) (j : Nat) (hj : j < 8) (e : Eng) (h : WInv τ j e) : ∃ e', e.makeTransfer (waT τ j) = (e', 0) ∧ WInv τ (j + 1) e' := by
  obtain ⟨x, y, ra, rb, rfl, hx, hy, lx, ly, fx, fy, qx, qy, dx, dy, rx, rk⟩ := h.ex
  have ht := tri_small j (by omega)
  have hN := waN_toNat j (by omega)
  have hm := two_mk x y ((List.range j).map fun i => waK τ i 1) ra rb ((2 + j : Nat) : Int) 0 (waT τ j) hx hy lx ly fx fy rfl rfl rfl rfl (wa_rule τ j (by omega)) (by rw [wa_tids]; exact waN_not j (by omega)) (by simp; omega)
  have b0 : ∀ m, m = 2 ∨ m = 4 ∨ m = 8 → band 0 m = 0 := by rintro m (rfl | rfl | rfl) <;> kernel_rfl
  have f1 : fitN [x.dp, waN j] = true := fit_of (by omega)
  have f2 : fitN [y.cp, waN j] = true := fit_of (by omega)
  have sx : (addN [x.dp, waN j]).toNat = tri (j + 1) := by
    unfold addN
    simp only [List.map_cons, List.map_nil, List.sum_cons, List.sum_nil]
    rw [if_pos (by omega), BitVec.toNat_ofNat, Nat.mod_eq_of_lt (by omega), hN, dx]
    rw [tri_succ]; omega
  have sy : (addN [y.cp, waN j]).toNat = tri (j + 1) := by
    unfold addN
    simp only [List.map_cons, List.map_nil, List.sum_cons, List.sum_nil]
    rw [if_pos (by omega), BitVec.toNat_ofNat, Nat.mod_eq_of_lt (by omega), hN, dy]
    rw [tri_succ]; omega
  have hf := first_pend x y ((List.range j).map fun i => waK τ i 1) ra rb ((2 + j : Nat) : Int) 0 (waT τ j) (waN j) (by show decide (band 2 2 ≠ 0) = true; kernel_rfl)
    (by
      unfold Eng.firstAmount
      rw [show (waT τ j).flags = 2 from rfl, show band 2 48 = 0 by kernel_rfl, show band 2 16 = 0 by kernel_rfl, show band 2 32 = 0 by kernel_rfl]
      simp; rfl) f1 f2 (by rw [qx]; exact (addN_zero _).2.2.2) (by rw [qy]; exact (addN_zero _).2.2.2) (within0 (by show band x.flags 2 = 0; rw [fx]; exact b0 2 (by simp)) (by show band x.flags 4 = 0; rw [fx]; exact b0 4 (by simp))) (within0 (by show band y.flags 2 = 0; rw [fy]; exact b0 2 (by simp)) (by show band y.flags 4 = 0; rw [fy]; exact b0 4 (by simp)))
  have c1 := firC_n (waT τ j) 64 { x with dp := addN [x.dp, waN j] } (by show band 2 64 = 0; kernel_rfl)
  have c2 := firC_n (waT τ j) 128 { y with cp := addN [y.cp, waN j] } (by show band 2 128 = 0; kernel_rfl)
  rw [c1, c2, add_two] at hf
  generalize hrx : rowOf ({ waT τ j with state := 1 } : Transfer).id (((2 + j : Nat) : Int) + 1) (bclr ({ waT τ j with state := 1 } : Transfer).flags 1) (waN j) { x with dp := addN [x.dp, waN j] } = rx' at hf
  generalize hry : rowOf ({ waT τ j with state := 1 } : Transfer).id (((2 + j : Nat) : Int) + 1) (bclr ({ waT τ j with state := 1 } : Transfer).flags 1) (waN j) { y with cp := addN [y.cp, waN j] } = ry' at hf
  refine ⟨_, hm.trans hf, ⟨wRow { x with dp := addN [x.dp, waN j] } (ra ++ [rx']), wRow { y with cp := addN [y.cp, waN j] } (rb ++ [ry']), ra ++ [rx'], rb ++ [ry'], ?_, hx, hy, lx, ly, fx, fy, qx, qy, sx, sy, rfl, ?_⟩⟩
  · rw [List.range_succ, List.map_append]
    have e1 : ((2 + j : Nat) : Int) + 1 = ((2 + (j + 1) : Nat) : Int) := by omega
    have e2 : ({ ({ waT τ j with state := 1 } : Transfer) with time := ((2 + j : Nat) : Int) + 1, tick := 0 } : Transfer) = waK τ j 1 := by
      rw [e1, show 2 + (j + 1) = 3 + j by omega]; rfl
    rw [e2, e1]; rfl
  · rw [List.map_append, rk, List.range_succ, List.map_append, ← hrx]
    congr 1
    simp only [List.map_cons, List.map_nil, keyR, rowOf, waT, show bclr 2 1 = 2 by kernel_rfl]
theorem wa_batch (τ : Nat → Int) (n : Nat) (hn : n ≤ 8) (T : List Transfer) (hT : T = (List.range n).map (waT τ)) : ∀ (m i f : Nat) (e : Eng), i + m = n → m ≤ f → WInv τ i e → ∃ e', Eng.batch (Eng.evT T) f i e = (e', []) ∧ WInv τ n e' := by
  have hl : T.length = n := by rw [hT]; simp
  have hg : ∀ i, i < n → T.getD i zT = waT τ i := fun i hi => by rw [getD_at (by omega)]; simp [hT]
  have hnn : (Eng.evT T).n = n := hl
  have hfl : ∀ i, i < n → band ((Eng.evT T).flags i) 1 = 0 := fun i hi => by
    show band (T.getD i zT).flags 1 = 0
    rw [hg i hi]
    show band 2 1 = 0
    kernel_rfl
  have hdo : ∀ i e, i < n → (Eng.evT T).do_ e i = e.makeTransfer (waT τ i) := fun i e hi => by
    show e.makeTransfer (T.getD i zT) = _
    rw [hg i hi]
  generalize Eng.evT T = ev at *
  intro m
  induction m with
  | zero =>
    intro i f e hi _ h
    have : i = n := by omega
    subst this
    exact ⟨e, batch_done (by omega), h⟩
  | succ m ih =>
    intro i f e hi hf h
    obtain ⟨f, rfl⟩ : ∃ g, f = g + 1 := ⟨f - 1, by omega⟩
    obtain ⟨e1, h1, h2⟩ := wa_step τ i (by omega) e h
    obtain ⟨e2, h3, h4⟩ := ih (i + 1) f e1 (by omega) (by omega) h2
    refine ⟨e2, ?_, h4⟩
    rw [batch_one (by omega) (hfl i (by omega)), one_ok (show ev.do_ e i = (e1, 0) by rw [hdo i e (by omega), h1])]
    simp only
    rw [h3]; rfl
theorem wa_two0 (τ : Nat → Int) : WInv τ 0 two0 := ⟨acc1, acc2, [], [], rfl, rfl, rfl, rfl, rfl, rfl, rfl, rfl, rfl, rfl, rfl, rfl, rfl⟩
theorem wa_made (τ : Nat → Int) (n : Nat) (hn : n ≤ 8) : ∃ e', two0.batchT ((List.range n).map (waT τ)) = (e', []) ∧ WInv τ n e' := by
  have h := wa_batch τ n hn _ rfl n 0 n two0 (by omega) (Nat.le_refl _) (wa_two0 τ)
  unfold Eng.batchT
  rw [show ((List.range n).map (waT τ)).length = n by simp]
  exact h
end Go.Proofs.YtpcechnalfaajaaDoor

/- EngineWaits' plain law: the tick. -/
namespace Go.Proofs.YtpcechnalfaajaaDoor
open Go Go.Proofs

def waS (ov : Nat → Bool) (k i : Nat) : Int := if i < k ∧ ov i = true then 4 else 1
/-- Some steps into the tick. -/
structure VInv (τ : Nat → Int) (ov : Nat → Bool) (n : Nat) (now : Int) (k : Nat) (e : Eng) : Prop where
  ex : ∃ x y ra rb tm, e = Two x y ((List.range n).map fun i => waK τ i (waS ov k i)) ra rb tm now ∧ x.id = 1 ∧ y.id = 2 ∧ x.dp.toNat = tri n - tri k + hsum ov k ∧ x.rows = (ra.length : Int) ∧ ra.map keyR = ((List.range n).map fun i => (waN i, (2 : Int), waN i)) ++ ((List.range k).filter ov).map fun i => (waN i, (-1 : Int), waN i)
theorem two_ids (x y : Account) (T : List Transfer) (ra rb : List Row) (tm now : Int) (hx : x.id = 1) (hy : y.id = 2) : (Two x y T ra rb tm now).ids = [1, 2] := by
  show [x.id, y.id] = _
  rw [hx, hy]
theorem wa_get (τ : Nat → Int) (n k : Nat) (s : Nat → Int) (hk : k < n) : ((List.range n).map fun i => waK τ i (s i)).getD k zT = waK τ k (s k) := by
  rw [getD_at (by simp; omega)]
  simp
theorem wa_transfer (τ : Nat → Int) (n k : Nat) (s : Nat → Int) (hn : n < 1000) (hk : k < n) (x y : Account) (ra rb : List Row) (tm now : Int) : (Two x y ((List.range n).map fun i => waK τ i (s i)) ra rb tm now).transfer (waN k) = some (waK τ k (s k)) := by
  unfold Eng.transfer
  rw [show (Two x y ((List.range n).map fun i => waK τ i (s i)) ra rb tm now).tids = ((List.range n).map fun i => waK τ i (s i)).map (·.id) from rfl, wa_tids, posN_wa n k hn hk]
  show some (((List.range n).map fun i => waK τ i (s i)).getD k zT) = _
  rw [wa_get τ n k s hk]
theorem wa_amount (τ : Nat → Int) (n k : Nat) (s : Nat → Int) (hn : n < 1000) (hk : k < n) (x y : Account) (ra rb : List Row) (tm now : Int) (hx : x.id = 1) (hy : y.id = 2) (Y : List (Num × Int × Num)) (hr : ra.map keyR = ((List.range n).map fun i => (waN i, (2 : Int), waN i)) ++ Y) :
    (Two x y ((List.range n).map fun i => waK τ i (s i)) ra rb tm now).amount (waN k) = waN k := by
  unfold Eng.amount
  rw [wa_transfer τ n k s hn hk]
  have hp : (Two x y ((List.range n).map fun i => waK τ i (s i)) ra rb tm now).payer (waK τ k (s k)) = 1 := if_pos rfl
  have hro : (Two x y ((List.range n).map fun i => waK τ i (s i)) ra rb tm now).rowsOf 1 = some ra := by
    unfold Eng.rowsOf
    rw [two_ids x y _ ra rb tm now hx hy, show posN 1 [1, 2] = some 0 from by decide]; rfl
  simp only
  rw [hp, hro]
  show Eng.findRow (waN k) ra = _
  rw [findRow_key, hr]
  exact findK_made k Y _ (List.mem_range.2 hk)
theorem wa_set (τ : Nat → Int) (ov : Nat → Bool) (n k : Nat) (hk : k < n) (hov : ov k = true) : ((List.range n).map fun i => waK τ i (waS ov k i)).set k (waK τ k 4) = (List.range n).map fun i => waK τ i (waS ov (k + 1) i) := by
  apply List.ext_getElem
  · simp
  · intro i h1 h2
    simp only [List.length_set, List.length_map, List.length_range] at h1
    rw [List.getElem_set]
    simp only [List.getElem_map, List.getElem_range]
    split
    · rename_i h; subst h
      unfold waS
      rw [if_pos ⟨Nat.lt_succ_self _, hov⟩]
    · rename_i h
      unfold waS
      congr 1
      by_cases hi : i < k ∧ ov i = true
      · rw [if_pos hi, if_pos ⟨by omega, hi.2⟩]
      · rw [if_neg hi, if_neg (fun h' => hi ⟨by omega, h'.2⟩)]
theorem wa_same (τ : Nat → Int) (ov : Nat → Bool) (n k : Nat) (hov : ov k = false) : ((List.range n).map fun i => waK τ i (waS ov k i)) = (List.range n).map fun i => waK τ i (waS ov (k + 1) i) := by
  apply List.map_congr_left
  intro i _
  unfold waS
  congr 1
  by_cases hi : i < k ∧ ov i = true
  · rw [if_pos hi, if_pos ⟨by omega, hi.2⟩]
  · have hno : ¬ (i < k + 1 ∧ ov i = true) := by
      intro h'
      rcases Nat.lt_or_ge i k with h | h
      · exact hi ⟨h, h'.2⟩
      · have h1 := h'.1
        have : i = k := by omega
        subst this
        rw [hov] at h'
        cases h'.2
    rw [if_neg hi, if_neg hno]
theorem wa_filter (ov : Nat → Bool) (k : Nat) : (List.range (k + 1)).filter ov = (List.range k).filter ov ++ if ov k then [k] else [] := by
  rw [List.range_succ, List.filter_append]
  cases h : ov k <;> simp [h]
theorem wa_expire (τ : Nat → Int) (ov : Nat → Bool) (n : Nat) (hn : n ≤ 8) (now : Int) (hov : ∀ i, ov i = decide (0 < τ i ∧ τ i ≤ now)) (k : Nat) (hk : k < n) (e : Eng) (h : VInv τ ov n now k e) : VInv τ ov n now (k + 1) (e.expire1 k) := by
  obtain ⟨x, y, ra, rb, tm, rfl, hx, hy, dx, rx, rk⟩ := h.ex
  have hp : (Two x y ((List.range n).map fun i => waK τ i (waS ov k i)) ra rb tm now).trs.getD k zT = waK τ k 1 := by
    show ((List.range n).map fun i => waK τ i (waS ov k i)).getD k zT = _
    rw [wa_get τ n k _ hk]
    unfold waS
    rw [if_neg (fun h => Nat.lt_irrefl _ h.1)]
  have htk : tri (k + 1) ≤ tri n := tri_le hk
  have hts := tri_succ k
  have hhs := hsum_succ ov k
  have htn := tri_small n hn
  have hNk := waN_toNat k (by omega)
  have hu : (Two x y ((List.range n).map fun i => waK τ i (waS ov k i)) ra rb tm now).expire1 k = if (1 : Int) ≠ 1 ∨ τ k ≤ 0 ∨ now - 0 < τ k then Two x y ((List.range n).map fun i => waK τ i (waS ov k i)) ra rb tm now else
      (let e := Two x y ((List.range n).map fun i => waK τ i (waS ov k i)) ra rb tm now
       let held := e.amount (waN k)
       let d := (posN 1 e.ids).getD 0
       let c := (posN 2 e.ids).getD 0
       let e := (e.release (waK τ k 1) held d c true).setState k 4
       ({ e with time := e.time + 1 } : Eng).row (waN k) (-1) held [d, c]) := by
    unfold Eng.expire1
    rw [hp]; rfl
  rw [hu]
  cases ho : ov k with
  | false =>
    rw [ho, if_neg (by decide)] at hhs
    have hno : ¬ (0 < τ k ∧ τ k ≤ now) := by rw [hov k] at ho; exact of_decide_eq_false ho
    rw [if_pos (by omega)]
    refine ⟨x, y, ra, rb, tm, by rw [wa_same τ ov n k ho], hx, hy, by omega, rx, ?_⟩
    rw [rk, wa_filter, ho]; simp
  | true =>
    rw [ho, if_pos rfl] at hhs
    have hyes : 0 < τ k ∧ τ k ≤ now := by rw [hov k] at ho; exact of_decide_eq_true ho
    rw [if_neg (by omega)]
    simp only
    rw [wa_amount τ n k _ (by omega) hk x y ra rb tm now hx hy _ rk, two_ids x y _ ra rb tm now hx hy, show (posN 1 [1, 2]).getD 0 = 0 from by decide, show (posN 2 [1, 2]).getD 0 = 1 from by decide, release_two]
    have b1 : ¬ (true = true ∧ band (waK τ k 1).flags 64 ≠ 0) := fun h => h.2 (by show band 2 64 = 0; kernel_rfl)
    have b2 : ¬ (true = true ∧ band (waK τ k 1).flags 128 ≠ 0) := fun h => h.2 (by show band 2 128 = 0; kernel_rfl)
    rw [if_neg b1, if_neg b2]
    have hset := wa_set τ ov n k hk ho
    have hst : ({ ((List.range n).map fun i => waK τ i (waS ov k i)).getD k zT with state := 4 } : Transfer) = waK τ k 4 := by
      rw [show ((List.range n).map fun i => waK τ i (waS ov k i)).getD k zT = waK τ k 1 from hp]; rfl
    have hss : (Two { x with dp := subN x.dp (waN k) } { y with cp := subN y.cp (waN k) } ((List.range n).map fun i => waK τ i (waS ov k i)) ra rb tm now).setState k 4 = Two { x with dp := subN x.dp (waN k) } { y with cp := subN y.cp (waN k) } ((List.range n).map fun i => waK τ i (waS ov (k + 1) i)) ra rb tm now := by
      unfold Eng.setState
      show (⟨_, ((List.range n).map fun i => waK τ i (waS ov k i)).set k { ((List.range n).map fun i => waK τ i (waS ov k i)).getD k zT with state := 4 }, _, _, _⟩ : Eng) = _
      rw [hst, hset]; rfl
    rw [hss]
    have hsub : (subN x.dp (waN k)).toNat = tri n - tri (k + 1) + hsum ov (k + 1) := by
      rw [sub_toNat (by omega), hNk, dx]
      omega
    refine ⟨wRow { x with dp := subN x.dp (waN k) } (ra ++ [rowOf (waN k) (tm + 1) (-1) (waN k) { x with dp := subN x.dp (waN k) }]), wRow { y with cp := subN y.cp (waN k) } (rb ++ [rowOf (waN k) (tm + 1) (-1) (waN k) { y with cp := subN y.cp (waN k) }]), ra ++ [rowOf (waN k) (tm + 1) (-1) (waN k) { x with dp := subN x.dp (waN k) }], rb ++ [rowOf (waN k) (tm + 1) (-1) (waN k) { y with cp := subN y.cp (waN k) }], tm + 1, rfl, hx, hy, hsub, rfl, ?_⟩
    rw [List.map_append, rk, wa_filter, ho, if_pos rfl, List.map_append, List.append_assoc]
    rfl
/-- What EngineWaits looks at. -/
theorem waits_law (τ : Nat → Int) (ov : Nat → Bool) (n : Nat) (hn : n ≤ 8) (now : Int) (hnow : 0 < now) (hov : ∀ i, ov i = decide (0 < τ i ∧ τ i ≤ now)) : (two0.batchT ((List.range n).map (waT τ))).2 = [] ∧ 0 ≤ (two0.batchT ((List.range n).map (waT τ))).1.now ∧ (two0.batchT ((List.range n).map (waT τ))).1.now < now ∧
    VInv τ ov n now n ((two0.batchT ((List.range n).map (waT τ))).1.tick now) := by
  obtain ⟨e, h1, h2⟩ := wa_made τ n hn
  rw [h1]
  obtain ⟨x, y, ra, rb, rfl, hx, hy, -, -, -, -, -, -, dx, -, rx, rk⟩ := h2.ex
  refine ⟨rfl, Int.le_refl _, hnow, ?_⟩
  have key : ∀ k, k ≤ n → VInv τ ov n now k ((List.range k).foldl Eng.expire1 (Two x y ((List.range n).map fun i => waK τ i 1) ra rb ((2 + n : Nat) : Int) now)) := by
    intro k
    induction k with
    | zero =>
      intro _
      refine ⟨x, y, ra, rb, ((2 + n : Nat) : Int), ?_, hx, hy, by rw [dx]; simp [tri, hsum], rx, by rw [rk]; simp⟩
      have : (fun i => waK τ i (waS ov 0 i)) = fun i => waK τ i 1 := by
        funext i
        unfold waS
        rw [if_neg (fun h => absurd h.1 (Nat.not_lt_zero i))]
      rw [this]; rfl
    | succ k ih =>
      intro hk
      rw [List.range_succ, List.foldl_append]
      exact wa_expire τ ov n hn now hov k hk _ (ih (by omega))
  have h := key n (Nat.le_refl _)
  unfold Eng.tick
  rw [show (Two x y ((List.range n).map fun i => waK τ i 1) ra rb ((2 + n : Nat) : Int) 0).trs.length = n by show ((List.range n).map fun i => waK τ i 1).length = n; simp]
  exact h
end Go.Proofs.YtpcechnalfaajaaDoor

/- EngineWaits: what the walk asks of the tick's outcome. -/
namespace Go.Proofs.YtpcechnalfaajaaDoor
open Go Go.Proofs

def cnt (ov : Nat → Bool) (k : Nat) : Nat := ((List.range k).filter ov).length
theorem cnt_succ (ov : Nat → Bool) (k : Nat) : cnt ov (k + 1) = cnt ov k + if ov k then 1 else 0 := by
  unfold cnt
  rw [wa_filter, List.length_append]
  cases ov k <;> rfl
theorem cnt_le (ov : Nat → Bool) (k : Nat) : cnt ov k ≤ k := by
  unfold cnt
  exact Nat.le_trans (List.length_filter_le _ _) (by simp)
theorem filter_at (ov : Nat → Bool) (n k : Nat) (hk : k < n) (ho : ov k = true) : ((List.range n).filter ov)[cnt ov k]? = some k := by
  have e : List.range n = List.range k ++ (k :: (List.range (n - k - 1)).map (k + 1 + ·)) := by
    have h1 : List.range ((k + 1) + (n - k - 1)) = List.range (k + 1) ++ (List.range (n - k - 1)).map (k + 1 + ·) := List.range_add
    rw [show (k + 1) + (n - k - 1) = n by omega] at h1
    rw [h1, List.range_succ, List.append_assoc]; rfl
  rw [e, List.filter_append, List.filter_cons, if_pos ho]
  unfold cnt
  rw [List.getElem?_append_right (Nat.le_refl _), Nat.sub_self]
  rfl
structure WaOk (τ : Nat → Int) (ov : Nat → Bool) (n : Nat) (now : Int) (E : Eng) : Prop where
  tr : ∀ k, k < n → E.transfer (waN k) = some (waK τ k (if ov k = true then 4 else 1))
  ac : ∃ x, E.account 1 = some x ∧ x.dp = BitVec.ofNat 128 (hsum ov n) ∧ x.rows = ((n + cnt ov n : Nat) : Int)
  ro : posN 1 E.ids = some 0
  nw : E.now = now
  rr : ∀ k, k < n → ov k = true → ∃ r, (E.rws.getD 0 [])[n + cnt ov k]? = some r ∧ r.tr = waN k ∧ r.event = -1 ∧ r.amount = waN k
theorem wa_ok {τ : Nat → Int} {ov : Nat → Bool} {n : Nat} {now : Int} {E : Eng} (hn : n ≤ 8) (h : VInv τ ov n now n E) : WaOk τ ov n now E := by
  obtain ⟨x, y, ra, rb, tm, rfl, hx, hy, dx, rx, rk⟩ := h.ex
  have hlen : ra.length = n + cnt ov n := by
    have := congrArg List.length rk
    simpa [cnt] using this
  refine ⟨fun k hk => ?_, ⟨x, two_account1 hx, ?_, by rw [rx, hlen]⟩, by rw [two_ids x y _ ra rb tm now hx hy]; decide, rfl, fun k hk ho => ?_⟩
  · rw [wa_transfer τ n k _ (by omega) hk]
    unfold waS
    by_cases ho : ov k = true
    · rw [if_pos ⟨hk, ho⟩, if_pos ho]
    · rw [if_neg (fun h => ho h.2), if_neg ho]
  · apply BitVec.eq_of_toNat_eq
    rw [dx, Nat.sub_self, Nat.zero_add, BitVec.toNat_ofNat, Nat.mod_eq_of_lt]
    have : hsum ov n ≤ tri n := by
      have : ∀ k, hsum ov k ≤ tri k := by
        intro k
        induction k with
        | zero => exact Nat.le_refl _
        | succ k ih => rw [hsum_succ, tri_succ]; split <;> omega
      exact this n
    have := tri_small n hn
    omega
  · have h1 : (ra.map keyR)[n + cnt ov k]? = some (waN k, (-1 : Int), waN k) := by
      rw [rk, List.getElem?_append_right (by simp)]
      simp only [List.length_map, List.length_range, List.getElem?_map]
      rw [show n + cnt ov k - n = cnt ov k by omega, filter_at ov n k hk ho]; rfl
    rw [List.getElem?_map] at h1
    show ∃ r, ra[n + cnt ov k]? = some r ∧ _
    cases h2 : ra[n + cnt ov k]? with
    | none => rw [h2] at h1; cases h1
    | some r =>
      rw [h2] at h1
      simp only [Option.map_some, Option.some.injEq, keyR, Prod.mk.injEq] at h1
      exact ⟨r, rfl, h1.1, h1.2.1, h1.2.2⟩
end Go.Proofs.YtpcechnalfaajaaDoor

/- The law EngineWaits. -/
namespace Go.Proofs.YtpcechnalfaajaaDoor
open Go Go.Proofs

theorem two00_tr (b : Nat) (i : EngI) (hi : i.lb.length = Eng.empty.rws.length) (bq c : Nat) (κ : Kap) (hκ : Laid κ) (cs : List HProp) :
    Te Tryd.prog 16 [.pointer (some ⟨b, 0, none⟩), .agg (reqC (reqA (some ⟨bq, 0, none⟩) [acctN 1, acctN 2] c)).toArray] κ (pts bq (37, [acctN 1, acctN 2].flatMap encA) :: engO b Eng.empty i cs) (fun z : EngI × Value => z.1.lb.length = two0.rws.length)
      (fun z => z.2) (fun z => engO b two0 z.1 cs) := fun w hs => by
  have h := applyF_tr [pts bq (37, [acctN 1, acctN 2].flatMap encA)] b Eng.empty i hi (m := 0) (by omega) empty_w (reqA (some ⟨bq, 0, none⟩) [acctN 1, acctN 2] c) (by simp [reqA]) (by simp [reqA]) (by simp [reqA]) κ hκ [pts bq (37, [acctN 1, acctN 2].flatMap encA)] cs ⟨[], _, rfl⟩ (.inr ⟨bq, 0, rfl, .ofRd (h := .head)⟩) (.inl rfl)
  rw [two_apply] at h
  exact (h w hs).mono fun _ _ ⟨z, h0, h1, h2⟩ => ⟨(z.1, _), h0, h1, h2.rows.rows⟩
/-- A tick that is later. -/
theorem tickQ_tr (b : Nat) (e : Eng) (i : EngI) (hi : i.lb.length = e.rws.length) {m : Nat} (hm : m + 8000 < 70000) (hW : EngW m e) (t : Int) (ht : e.now < t ∧ t ≤ 9223372036854775807) (κ : Kap) (hκ : Laid κ) (cs : List HProp) :
    Te Tryd.prog 16 [.pointer (some ⟨b, 0, none⟩), .agg (reqC (kindR 3 t)).toArray] κ (engO b e i cs) (fun x : EngI × Value => x.1.lb.length = (e.tick t).rws.length) (fun x => x.2) (fun x => engO b (e.tick t) x.1 cs) := fun w hs => by
  have h := apply_tr b e i hi hm hW (kindR 3 t) ht.2 (by simp [kindR]) (by simp [kindR]) κ hκ [] cs ⟨[], cs, rfl⟩ (.inl rfl) (.inl rfl)
  have hk : e.apply (kindR 3 t) = ((e.tick t, []), 0) := (if_neg (show ¬ (3 : Int) = 1 by decide)).trans ((if_neg (show ¬ (3 : Int) = 2 by decide)).trans (if_pos ⟨rfl, ht.1⟩))
  rw [hk] at h
  exact (h w hs).mono fun _ _ ⟨u, h0, h1, h2⟩ => ⟨(u.1, _), h0, h1, h2.rows⟩
theorem sl_rds {p : Option Addr} {n c sz : Nat} {T : TypeId} {r : List Value} (h : n = 0 ∨ ∃ b, p = some ⟨b, 0, none⟩) (h0 : n = 0 → r = []) : RdS [sl sz (.slice p n c) (T, r)] p r := by
  rcases h with h | ⟨b, rfl⟩
  · exact .inl (h0 h)
  · exact .inr ⟨b, 0, rfl, inferInstance⟩
theorem int_get (L : List Int) (k : Nat) (h : k < L.length) : getV false (L.flatMap fun z => [Value.int .i64 z]) (k * 1) 1 = some (.int .i64 L[k]) :=
  flat_get (fun z : Int => [Value.int .i64 z]) 1 (fun _ => rfl) L k 0 1 false _ h rfl
theorem band15 (w : Int) : 0 ≤ band w 15 ∧ band w 15 ≤ 15 := by
  have h : (BitVec.ofInt 64 w &&& BitVec.ofInt 64 15).toNat ≤ 15 := by
    rw [BitVec.toNat_and]
    exact Nat.and_le_right
  have hw : IntKind.i64.wrap ((BitVec.ofInt 64 w &&& BitVec.ofInt 64 15).toNat : Int) = ((BitVec.ofInt 64 w &&& BitVec.ofInt 64 15).toNat : Int) := wrap_in (by omega)
  show 0 ≤ IntKind.i64.wrap ((BitVec.ofInt 64 w &&& BitVec.ofInt 64 15).toNat : Int) ∧ IntKind.i64.wrap ((BitVec.ofInt 64 w &&& BitVec.ofInt 64 15).toNat : Int) ≤ 15
  rw [hw]
  omega
set_option maxHeartbeats 4000000 in
theorem waits_tr (L : List Int) (p : Option Addr) (cap : Nat) (n0 : Int) (κ : Kap) (hκ : Laid κ) (hL : RdK κ p (L.flatMap fun z => [.int .i64 z])) (cs : List HProp) : Tr Tryd.prog 8 [.slice p L.length cap, .int .i64 n0] κ cs (.bool true) cs := by
  refine .enter Tryd.func8 rfl rfl ?_
  repeat refine .seq ?_
  refine .reg ?_
  refine .as ?_
  refine .go ?_
  repeat refine .seq ?_
  refine .reg ?_
  refine .cl (fit_tr κ hκ _) ?_
  refine .nt ?_
  refine .go ?_
  refine .cond rfl (fun hc => by cases hc) (fun hc => ?_)
  refine .go ?_
  repeat refine .seq ?_
  refine .reg ?_
  refine .mv ?_
  refine .ln ?_
  refine .gt ?_
  refine .go ?_
  refine .cond rfl (fun hc => ?_) (fun hc => ?_)
  · repeat refine .seq ?_
    refine .reg ?_
    refine .as ?_
    refine .go ?_
    refine .r1 fun w hs => ?_
    exact ⟨rfl, hs⟩
  have h8 : L.length ≤ 8 := by have : ¬ (8 : Int) < L.length := of_decide_eq_false hc; omega
  refine .go ?_
  repeat refine .seq ?_
  refine .reg ?_
  refine .ce (newO_tr κ _) (fun x hx => ?_)
  generalize x.1 = b at *
  generalize x.2 = i at *
  refine .as ?_
  refine .go ?_
  repeat refine .seq ?_
  refine .reg ?_
  refine .mv ?_
  refine .cl (of_tr 1 (by decide) κ _) ?_
  refine .bd (r := encA (acctN 1)) ?_ ⟨inferInstance, inferInstance, rfl, by kernel_rfl⟩
  refine .cl (of_tr 2 (by decide) κ _) ?_
  refine .bd (r := encA (acctN 2)) ?_ ⟨inferInstance, inferInstance, rfl, by kernel_rfl⟩
  refine .bs (r := [acctN 1, acctN 2].flatMap encA) (fun b30 => ?_) (h := ⟨inferInstance, inferInstance, ⟨rfl, rfl, rfl, rfl⟩, rfl, by kernel_rfl⟩)
  refine .bd (r := reqC (reqA (some ⟨b30, 0, none⟩) [acctN 1, acctN 2] 2)) ?_ ⟨inferInstance, inferInstance, rfl, by kernel_rfl⟩
  refine .ce (two00_tr b i hx b30 2 κ hκ _) (fun z hz => ?_)
  generalize z.1 = i1 at *
  generalize z.2 = v32
  refine .go ?_
  repeat refine .seq ?_
  refine .reg ?_
  refine .bd (r := reqC (reqT none [] 0)) ?_ ⟨inferInstance, inferInstance, rfl, by kernel_rfl⟩
  refine .al fun b6 => ?_
  refine .stw (v := .agg (reqC (reqT none [] 0)).toArray) ?_
  rw [vc_agg]
  refine .sat (cs' := pts b6 (41, reqC (reqT none [] 0)) :: sl 16 (.slice none 0 0) (43, []) :: engO b two0 i1 cs) (fun w hs => (hs.nilS 16 43).pm 2 [1, 0]) ?_
  obtain ⟨τ, hτ⟩ : ∃ τ : Nat → Int, τ = fun i => band (L.getD i 0) 15 := ⟨_, rfl⟩
  have hτk : ∀ k z, L[k]? = some z → bandK .i64 z 15 = τ k := fun k z h => by rw [hτ]; simp [List.getD, h]
  clear hτ
  obtain ⟨n, hn⟩ : ∃ n, L.length = n := ⟨_, rfl⟩
  rw [hn] at h8 ⊢
  refine .go ?_
  repeat refine .seq ?_
  refine .reg ?_
  refine .mv ?_
  refine .ln ?_
  refine .mv ?_
  refine .go ?_
  repeat refine .seq ?_
  refine .block ?_
  refine .lp (fun x : Nat × Option Addr × Nat => [(0, .slice p n cap), (1, .int .i64 n0), (4, .bool false), (5, .pointer (some ⟨b, 0, none⟩)), (6, .pointer (some ⟨b6, 0, none⟩)), (34, .slice p n cap), (35, .int .i64 n), (36, .int .i64 x.1)])
    (fun x => pts b6 (41, reqC (reqT x.2.1 ((List.range x.1).map (waT τ)) x.2.2)) :: sl 16 (.slice x.2.1 ((List.range x.1).map (waT τ)).length x.2.2) (43, ((List.range x.1).map (waT τ)).flatMap encT) :: engO b two0 i1 cs) (fun x => x.1 ≤ n) (fun x => n - x.1) (0, none, 0) (Nat.zero_le _) (by repeat (first | exact trivial | refine ⟨rfl, ?_⟩)) rfl fun x hk => ?_
  obtain ⟨k, pB, cB⟩ := x
  simp only at hk
  refine .fra (fr' := [(0, .slice p n cap), (1, .int .i64 n0), (4, .bool false), (5, .pointer (some ⟨b, 0, none⟩)), (6, .pointer (some ⟨b6, 0, none⟩)), (34, .slice p n cap), (35, .int .i64 n), (36, .int .i64 k)]) (by repeat (first | exact trivial | refine ⟨rfl, ?_⟩)) ?_
  refine .sat (cs' := pts b6 (41, reqC (reqT pB ((List.range k).map (waT τ)) cB)) :: sl 16 (.slice pB ((List.range k).map (waT τ)).length cB) (43, ((List.range k).map (waT τ)).flatMap encT) :: engO b two0 i1 cs) (fun w hs => hs) ?_
  have hBl : ((List.range k).map (waT τ)).length = k := by simp
  repeat refine .seq ?_
  refine .reg ?_
  refine .lt ?_
  refine .go ?_
  repeat refine .seq ?_
  refine .cond rfl (fun hc => ?_) (fun hc => ?_)
  · have hkl : k < n := by have : (k : Int) < n := of_decide_eq_true hc; omega
    have hsn : (List.range (k + 1)).map (waT τ) = (List.range k).map (waT τ) ++ [waT τ k] := by rw [List.range_succ, List.map_append]; rfl
    have hk2 : k < L.length := by omega
    have hv := int_get L k hk2
    have hτ1 := hτk k L[k] (List.getElem?_eq_getElem hk2)
    generalize L[k] = lk at *
    rcases hL with h | ⟨bl, o, rfl, hr⟩
    · exfalso
      have := congrArg List.length h
      rw [flat_len (fun z : Int => [Value.int .i64 z]) 1 (fun _ => rfl), Nat.mul_one] at this
      simp only [List.length_nil] at this
      omega
    generalize (List.range k).map (waT τ) = B at *
    refine .sat (cs' := isK κ :: pts b6 (41, reqC (reqT pB B cB)) :: sl 16 (.slice pB B.length cB) (43, B.flatMap encT) :: engO b two0 i1 cs) (fun w hs => hs.isK) ?_
    haveI : RdAt bl (isK κ :: pts b6 (41, reqC (reqT pB B cB)) :: sl 16 (.slice pB B.length cB) (43, B.flatMap encT) :: engO b two0 i1 cs) o (L.flatMap fun z => [.int .i64 z]) := .ofK hr
    refine .go ?_
    repeat refine .seq ?_
    refine .block ?_
    repeat refine .seq ?_
    refine .reg ?_
    refine .mv ?_
    refine .ix ?_
    refine .lx hv ?_
    refine .as ?_
    refine .as ?_
    refine .go ?_
    repeat refine .seq ?_
    refine .regD [(b6, 0, reqC (reqT pB B cB))] [18] ?_
    refine .fa 0 ?_
    refine .ld 1 (v := .slice pB B.length cB) ?_
    refine .mv 2 ?_
    refine .ad 3 ?_
    refine .cv 4 ?_
    rw [show (k : Int) + 1 = ((k + 1 : Nat) : Int) by omega, u64_nat _ (by omega)]
    refine .mv 8 ?_
    refine .ad 9 ?_
    refine .cv 10 ?_
    rw [show (k : Int) + 1 = ((k + 1 : Nat) : Int) by omega, u64_nat _ (by omega)]
    refine .mv 12 ?_
    refine .an 13 ?_
    rw [hτ1]
    refine .cl 5 (of_tr (k + 1) (by omega) κ _) ?_
    refine .cl 6 (of_tr 1 (by decide) κ _) ?_
    refine .cl 7 (of_tr 2 (by decide) κ _) ?_
    refine .cl 11 (of_tr (k + 1) (by omega) κ _) ?_
    refine .bd 14 (r := encT (waT τ k)) ?_ rfl ⟨inferInstance, inferInstance, rfl, by kernel_rfl⟩
    generalize waT τ k = t at *
    refine .bs1 15 (v := .agg (encT t).toArray) (m := 16) (fun b56 => ?_) rfl
    rw [vc_agg]
    refine .ap 16 (src := encT t) (q := some ⟨b56, 0, none⟩) (k := 1) (m := 16) (.inr ⟨b56, 0, rfl, .ofRd (h := .head)⟩) (fun p1 c1 => ?_) rfl rfl
    rw [show B.length + 1 = (B ++ [t]).length by simp, show B.flatMap encT ++ encT t = (B ++ [t]).flatMap encT by simp, ← hsn]
    refine .fa 17 ?_
    refine .sx 18 (r' := reqC (reqT p1 ((List.range (k + 1)).map (waT τ)) c1)) rfl ?_
    refine .go ?_
    refine .reg ?_
    refine .ad ?_
    refine .mv ?_
    exact .nil fun aa w hf hs => ⟨(k + 1, p1, c1), hkl, by show n - (k + 1) < n - k; omega, hf.to (by repeat (first | exact trivial | refine ⟨rfl, ?_⟩)), hs.pm 4 [2, 3]⟩
  have hkl : k = n := by have : ¬ (k : Int) < n := of_decide_eq_false hc; omega
  subst hkl
  have h15 : 0 ≤ bandK .i64 n0 15 ∧ bandK .i64 n0 15 ≤ 15 := band15 n0
  generalize hb0 : bandK .i64 n0 15 = y at *
  obtain ⟨nw, hnw⟩ : ∃ nw : Int, y + 1 = nw := ⟨_, rfl⟩
  have hnw1 : 0 < nw ∧ nw ≤ 16 := by omega
  obtain ⟨ov, hov⟩ : ∃ ov : Nat → Bool, ∀ i, ov i = decide (0 < τ i ∧ τ i ≤ nw) := ⟨fun i => decide (0 < τ i ∧ τ i ≤ nw), fun _ => rfl⟩
  obtain ⟨l1, l2, l3, l4⟩ := waits_law τ ov k h8 nw hnw1.1 hov
  have hw1 := batchT_w two0_w ((List.range k).map (waT τ))
  have hTz : ((List.range k).map (waT τ)).length = 0 → ((List.range k).map (waT τ)).flatMap encT = [] := fun h => by rw [List.eq_nil_of_length_eq_zero h]; rfl
  generalize (List.range k).map (waT τ) = T at *
  refine .slq (p := pB) (n0 := T.length) (cap := cB) (sz := 16) (fun hpB => ?_)
  have hT := applyF_tr [pts b6 (41, reqC (reqT pB T cB)), sl 16 (.slice pB T.length cB) (43, T.flatMap encT)] b two0 i1 hz (m := 600) (by omega) two0_w (reqT pB T cB) (by simp [reqT]) (by simp [reqT]) (by show T.length < 1000; omega) κ hκ [sl 16 (.slice pB T.length cB) (43, T.flatMap encT)] cs ⟨[_], _, rfl⟩ (.inl rfl) (sl_rds hpB hTz)
  have k1 : (two0.apply (reqT pB T cB)).1 = two0.batchT T := rfl
  rw [k1] at hT
  refine .xgo ?_
  repeat refine .seq ?_
  refine .reg ?_
  refine .mv ?_
  refine .ldw ?_
  refine .ce hT (fun z2 hz2 => ?_)
  generalize z2.1 = i2 at *
  refine .sat (cs' := engO b (two0.batchT T).1 i2 cs) (fun w hs => hs.pm 3 []) ?_
  generalize (two0.batchT T).1 = E1 at *
  refine .go ?_
  repeat refine .seq ?_
  refine .reg ?_
  refine .mv ?_
  refine .an ?_
  rw [hb0]
  refine .ad ?_
  rw [hnw]
  refine .as ?_
  refine .go ?_
  repeat refine .seq ?_
  refine .reg ?_
  refine .mv ?_
  refine .mv ?_
  refine .bd (r := reqC (kindR 3 nw)) ?_ ⟨inferInstance, inferInstance, rfl, by kernel_rfl⟩
  refine .ce (tickQ_tr b E1 i2 hz2 (by omega) hw1 nw ⟨l3, by omega⟩ κ hκ _) (fun z3 hz3 => ?_)
  have hw2 : EngW (600 + 2 * (T.length + 1) + 2 * E1.trs.length) (E1.tick nw) := (tick_w hw1 nw ⟨by omega, by omega⟩ E1.trs.length).1
  have hw2 := hw2.mono (show _ ≤ 2000 by have := hw1.lt; omega)
  have hok := wa_ok h8 l4
  generalize E1.tick nw = E at *
  generalize z3.1 = i3 at *
  generalize z3.2 = v69
  have hla := hw2.la
  have hlt := hw2.lt
  have hlr := hw2.lr
  have hids : E.ids.length = E.acc.length := by simp [Eng.ids]
  have hr0 : 0 < E.rws.length := by
    obtain ⟨h, _⟩ := posN_some hok.ro
    omega
  refine .go ?_
  repeat refine .seq ?_
  refine .reg ?_
  refine .as ?_
  refine .go ?_
  repeat refine .seq ?_
  refine .reg ?_
  refine .mv ?_
  refine .ln ?_
  refine .as ?_
  refine .go ?_
  repeat refine .seq ?_
  refine .reg ?_
  refine .mv ?_
  refine .ln ?_
  refine .mv ?_
  refine .go ?_
  repeat refine .seq ?_
  refine .block ?_
  refine .lp (fun j : Nat => [(0, .slice p k cap), (1, .int .i64 nw), (4, .bool false), (5, .pointer (some ⟨b, 0, none⟩)), (9, .int .u64 (hsum ov j : Nat)), (10, .int .i64 (k + cnt ov j : Nat)), (72, .slice p k cap), (73, .int .i64 k), (74, .int .i64 j)])
    (fun _ => engO b E i3 cs) (fun j => j ≤ k) (fun j => k - j) 0 (Nat.zero_le _) (by repeat (first | exact trivial | refine ⟨rfl, ?_⟩)) rfl fun j hj => ?_
  have hcj := cnt_le ov j
  have hsm : hsum ov j ≤ 1000 := by
    have h1 : ∀ j, hsum ov j ≤ tri j := by
      intro j
      induction j with
      | zero => exact Nat.le_refl _
      | succ j ih => rw [hsum_succ, tri_succ]; split <;> omega
    have h2 := h1 j
    have h3 := tri_small j (by omega)
    omega
  repeat refine .seq ?_
  refine .reg ?_
  refine .lt ?_
  refine .go ?_
  repeat refine .seq ?_
  refine .cond rfl (fun hc => ?_) (fun hc => ?_)
  · have hjk : j < k := by have : (j : Int) < k := of_decide_eq_true hc; omega
    have hk2 : j < L.length := by omega
    have hv := int_get L j hk2
    have hτ1 := hτk j L[j] (List.getElem?_eq_getElem hk2)
    generalize L[j] = lj at *
    have htr := trans_tr b E hw2.hnt (by omega) i3 (waN j) κ
    rw [hok.tr j hjk] at htr
    simp only [Option.getD_some, Option.isSome_some] at htr
    rcases hL with h | ⟨bl, o, rfl, hr⟩
    · exfalso
      have := congrArg List.length h
      rw [flat_len (fun z : Int => [Value.int .i64 z]) 1 (fun _ => rfl), Nat.mul_one] at this
      simp only [List.length_nil] at this
      omega
    refine .sat (cs' := isK κ :: engO b E i3 cs) (fun w hs => hs.isK) ?_
    haveI : RdAt bl (isK κ :: engO b E i3 cs) o (L.flatMap fun z => [.int .i64 z]) := .ofK hr
    refine .go ?_
    repeat refine .seq ?_
    refine .block ?_
    repeat refine .seq ?_
    refine .reg ?_
    refine .mv ?_
    refine .ix ?_
    refine .lx hv ?_
    refine .sat (cs' := engO b E i3 cs) (fun w hs => hs.rows) ?_
    refine .as ?_
    refine .as ?_
    refine .go ?_
    repeat refine .seq ?_
    refine .reg ?_
    refine .mv ?_
    refine .mv ?_
    refine .ad ?_
    refine .cv ?_
    rw [show (j : Int) + 1 = ((j + 1 : Nat) : Int) by omega, u64_nat _ (by omega)]
    refine .cl (of_tr (j + 1) (by omega) κ _) ?_
    refine .cl (htr _) ?_
    refine .mv ?_
    refine .ex ?_
    refine .ex ?_
    refine .al fun b13 => ?_
    refine .stw (v := .agg (encT (waK τ j (if ov j = true then 4 else 1))).toArray) ?_
    rw [vc_agg]
    refine .as ?_
    refine .go ?_
    have hovj := hov j
    have hs4 : decide ((if ov j = true then (4 : Int) else 1) = 4) = ov j := by cases ov j <;> rfl
    have hs1 : decide ((if ov j = true then (4 : Int) else 1) = 1) = !ov j := by cases ov j <;> rfl
    refine .jn (ι := Unit) (fun _ => [(0, .slice (some ⟨bl, o, none⟩) k cap), (1, .int .i64 nw), (4, .bool false), (5, .pointer (some ⟨b, 0, none⟩)), (9, .int .u64 (hsum ov j : Nat)), (10, .int .i64 (k + cnt ov j : Nat)), (11, .int .i64 j), (13, .pointer (some ⟨b13, 0, none⟩)), (14, .bool true), (15, .bool (ov j)), (72, .slice (some ⟨bl, o, none⟩) k cap), (73, .int .i64 k), (74, .int .i64 j)])
      (fun _ => pts b13 (43, encT (waK τ j (if ov j = true then 4 else 1))) :: engO b E i3 cs) (fun _ => True) ?_ fun _ _ => ?_
    · refine .reg ?_
      refine .mv ?_
      refine .an ?_
      rw [hτ1]
      refine .gt ?_
      refine .mv ?_
      by_cases h0 : 0 < τ j
      · rw [decide_eq_true h0]
        refine .mv ?_
        refine .an ?_
        rw [hτ1]
        refine .mv ?_
        refine .le ?_
        rw [show decide (τ j ≤ nw) = ov j by rw [hovj]; congr 1; exact propext ⟨fun h => ⟨h0, h⟩, fun h => h.2⟩]
        first | refine .pt ?_ | refine .pf ?_
        refine .as ?_
        exact .nil fun aa w hf hs => ⟨(), trivial, hf.to (by repeat (first | exact trivial | refine ⟨rfl, ?_⟩)), hs⟩
      · rw [decide_eq_false h0]
        have : ov j = false := by rw [hovj]; exact decide_eq_false fun h => h0 h.1
        rw [this]
        repeat refine .skip ?_
        first | refine .pt ?_ | refine .pf ?_
        refine .as ?_
        exact .nil fun aa w hf hs => ⟨(), trivial, hf.to (by repeat (first | exact trivial | refine ⟨rfl, ?_⟩)), hs⟩
    repeat refine .seq ?_
    refine .reg ?_
    refine .mv ?_
    refine .nt ?_
    refine .mv ?_
    refine .fa ?_
    refine .ld (v := .int .i64 (if ov j = true then 4 else 1)) ?_
    refine .eq ?_
    rw [hs4]
    refine .mv ?_
    refine .neb ?_
    rw [show (!(ov j == ov j)) = false by simp]
    first | refine .pt ?_ | refine .pf ?_
    refine .mv ?_
    refine .fa ?_
    refine .ld (v := .int .i64 (if ov j = true then 4 else 1)) ?_
    refine .eq ?_
    rw [hs1]
    refine .mv ?_
    refine .eqb ?_
    rw [show ((!ov j) == ov j) = false by cases ov j <;> rfl]
    first | refine .pt ?_ | refine .pf ?_
    refine .go ?_
    refine .cond rfl (fun hc => by cases hc) (fun hc => ?_)
    have hhs := hsum_succ ov j
    have hcs := cnt_succ ov j
    refine .go ?_
    repeat refine .seq ?_
    refine .reg ?_
    refine .mv ?_
    refine .nt ?_
    refine .go ?_
    cases ho : ov j with
    | false =>
      rw [ho, if_neg (by decide)] at hhs hcs
      refine .cond rfl (fun hc => ?_) (fun hc => by cases hc)
      repeat refine .seq ?_
      refine .reg ?_
      refine .mv ?_
      refine .mv ?_
      refine .ad ?_
      refine .cv ?_
      rw [show (j : Int) + 1 = ((j + 1 : Nat) : Int) by omega, u64_nat _ (by omega)]
      refine .adw ?_
      rw [show addK .u64 ((hsum ov j : Nat) : Int) ((j + 1 : Nat) : Int) = ((hsum ov (j + 1) : Nat) : Int) by
        unfold addK
        rw [← Int.natCast_add, u64_nat _ (by omega), hhs]]
      refine .as ?_
      refine .go ?_
      refine .xgo ?_
      refine .reg ?_
      refine .ad ?_
      refine .mv ?_
      refine .nil fun aa w hf hs => ⟨j + 1, hjk, by omega, ?_, hs.rows⟩
      rw [show k + cnt ov (j + 1) = k + cnt ov j by omega]
      exact hf.to (by repeat (first | exact trivial | refine ⟨rfl, ?_⟩))
    | true =>
      rw [ho, if_pos rfl] at hhs hcs
      rw [show (if true = true then (4 : Int) else 1) = 4 from rfl]
      refine .cond rfl (fun hc => by cases hc) (fun hc => ?_)
      obtain ⟨r, hr1, hr2, hr3, hr4⟩ := hok.rr j hjk ho
      have hro := rowsE_tr b E hw2.hn (by omega) hlr i3 hz3 1 κ
      have hrv : rowsV E i3 1 = ptrV (i3.lb.getD 0 0) := by unfold rowsV; rw [hok.ro]
      have hb0 : 0 < i3.lb.length := by omega
      rw [hrv, getD_at hb0] at hro
      rw [getD_at hr0] at hr1
      have hll : E.rws[0].length < 100000 := by have := hw2.lw _ (List.getElem_mem hr0); omega
      obtain ⟨hri, hr1⟩ := List.getElem?_eq_some_iff.1 hr1
      refine .go ?_
      repeat refine .seq ?_
      refine .reg ?_
      refine .mv ?_
      refine .cl (of_tr 1 (by decide) κ _) ?_
      refine .cl (Tr.ef1 (hro _)) ?_
      refine .sat (fun w hs => (eng_listF [_] hr0 hz3).1 hs) ?_
      simp only [List.cons_append, List.nil_append]
      have hback : ∀ x w, Sat κ w (lstB i3.lb[0] E.rws[0] :: pts b13 x :: engH b E i3 (rowsP (E.rws.take 0) (i3.lb.take 0) ++ (rowsP (E.rws.drop (0 + 1)) (i3.lb.drop (0 + 1)) ++ cs))) → Sat κ w (pts b13 x :: engO b E i3 cs) := fun x w hs => (eng_listF [_] hr0 hz3).2 hs
      generalize engH b E i3 (rowsP (E.rws.take 0) (i3.lb.take 0) ++ (rowsP (E.rws.drop (0 + 1)) (i3.lb.drop (0 + 1)) ++ cs)) = R at *
      generalize i3.lb[0] = bj at *
      generalize E.rws[0] = rs at *
      refine .mv ?_
      refine .cl (ratB_tr bj rs (k + cnt ov j) hri hll κ _) ?_
      rw [hr1]
      refine .al fun b16 => ?_
      refine .stw (v := .agg (encR r).toArray) ?_
      rw [vc_agg]
      refine .go ?_
      repeat refine .seq ?_
      refine .regD [(b16, 0, encR r), (b13, 0, encT (waK τ j 4))] [] ?_
      refine .fa 0 ?_
      refine .ld 1 (v := .agg (nm r.tr).toArray) ?_
      refine .fa 2 ?_
      refine .ld 3 (v := .agg (nm (waN j)).toArray) ?_
      refine .nen 4 r.tr (waN j) ?_
      rw [decide_eq_true hr2]
      refine .mv 5 ?_
      refine .fa 6 ?_
      refine .ld 7 (v := .int .i64 r.event) ?_
      rw [hr3]
      refine .ne 8 ?_
      first | refine .pt 9 ?_ | refine .pf 9 ?_
      refine .mv 10 ?_
      refine .fa 11 ?_
      refine .ld 12 (v := .agg (nm r.amount).toArray) ?_
      refine .mv 13 ?_
      refine .ad 14 ?_
      refine .cv 15 ?_
      rw [show (j : Int) + 1 = ((j + 1 : Nat) : Int) by omega, u64_nat _ (by omega)]
      refine .cl 16 (of_tr (j + 1) (by omega) κ _) ?_
      refine .nen 17 r.amount (BitVec.ofNat 128 (j + 1)) ?_
      rw [decide_eq_true (show r.amount = BitVec.ofNat 128 (j + 1) from hr4)]
      first | refine .pt 18 ?_ | refine .pf 18 ?_
      refine .go ?_
      refine .cond rfl (fun hc => by cases hc) (fun hc => ?_)
      refine .go ?_
      refine .reg ?_
      refine .mv ?_
      refine .ad ?_
      refine .as ?_
      refine .go ?_
      refine .reg ?_
      refine .ad ?_
      refine .mv ?_
      refine .nil fun aa w hf hs => ⟨j + 1, hjk, by omega, ?_, ?_⟩
      · rw [show k + cnt ov (j + 1) = k + cnt ov j + 1 by omega, show hsum ov (j + 1) = hsum ov j by omega]
        exact hf.to (by repeat (first | exact trivial | refine ⟨rfl, ?_⟩))
      · exact (hback _ w (hs.pm 3 [1, 2])).rows
  have hjk : j = k := by have : ¬ (j : Int) < k := of_decide_eq_false hc; omega
  subst hjk
  obtain ⟨x1, ha, hdp, hrw⟩ := hok.ac
  have hA := acct_tr b E hw2.hn (by omega) i3 1 κ
  rw [ha] at hA
  simp only [Option.getD_some, Option.isSome_some] at hA
  have hN := nowE_tr b E i3 κ
  rw [hok.nw] at hN
  have hx46 : (encA x1).length = 46 := encA_len _
  have hx1 : one (encA x1) = true := encA_one _
  refine .xgo ?_
  repeat refine .seq ?_
  refine .reg ?_
  refine .mv ?_
  refine .cl (of_tr 1 (by decide) κ _) ?_
  refine .cl (hA _) ?_
  refine .mv ?_
  refine .ex ?_
  refine .ex ?_
  refine .al fun b17 => ?_
  refine .stw (v := .agg (encA x1).toArray) ?_ (h := ⟨rfl, rfl, inferInstance, inferInstance, ⟨hx46, rfl⟩, hx1, rfl⟩)
  rw [vc_agg]
  refine .as ?_
  refine .go ?_
  repeat refine .seq ?_
  refine .regD [(b17, 0, encA x1)] [] ?_
  refine .fa 0 ?_
  refine .ld 1 (v := .agg (nm x1.dp).toArray) ?_
  refine .mv 2 ?_
  refine .cl 3 (of_tr (hsum ov j) (by omega) κ _) ?_
  refine .eqn 4 x1.dp (BitVec.ofNat 128 (hsum ov j)) ?_
  rw [decide_eq_true hdp]
  refine .mv 5 ?_
  refine .fa 6 ?_
  refine .ld 7 (v := .int .i64 x1.rows) ?_
  refine .mv 8 ?_
  refine .eq 9 ?_
  rw [decide_eq_true hrw]
  first | refine .pt 10 ?_ | refine .pf 10 ?_
  refine .mv 11 ?_
  refine .mv 12 ?_
  refine .mv 14 ?_
  refine .cl 13 (Tr.ef1 (hN _)) ?_
  refine .eq 15 ?_
  rw [decide_eq_true (p := nw = nw) rfl]
  first | refine .pt 16 ?_ | refine .pf 16 ?_
  refine .as 17 ?_
  refine .go ?_
  refine .r1 fun w hs => ?_
  exact ⟨rfl, eng_drop hs.rows⟩
end Go.Proofs.YtpcechnalfaajaaDoor

/- EngineWaits: the row and the card. -/
namespace Go.Proofs.YtpcechnalfaajaaDoor
open Go Go.Proofs Go.ChangeShapes Go.WideShapes Go.ChangeAt Go.WideMaps Go.WideElems Go.RowKit

set_option maxRecDepth 100000 in
theorem engineWaits_lifted (os : Os) (started : os.Started) (H : Type) (enc : TypeId × Value → H) :
    ReturnsInHanded {} Tryd.checked os 8 .any (fun w args => (Rows.engineWaitsSpec.pre enc Tryd.prog Tryd.f8 [] false w args ∧ laidMetH Tryd.prog laid4 w) ∧ sizedMet enc Tryd.prog Tryd.f8 (OpenSpec.ofChange Rows.engineWaitsSpec) false w args)
      (Rows.engineWaitsSpec.post enc Tryd.prog Tryd.f8 false true false false) := by
  refine returnsInHanded_of_change_and (C := Tryd.checked) (X := fun w _ => laidMetH Tryd.prog laid4 w) (fun _ _ _ hh h => h.of_heap hh) own started (by kernel_rfl) Tryd.func8
    (ChangeSpec.witness_shaped (enc := enc) (C := Tryd.checked) (os := os) (X := fun w _ => laidMetH Tryd.prog laid4 w) false (World.doorLaid Tryd.prog 4000 os) #[.slice none 0 0, .int .i64 0] 8 rfl (World.shaped_of_RefB (by kernel_rfl) (by kernel_rfl)) (by kernel_rfl) (by kernel_rfl) (by kernel_rfl) (door_met os _)) ?_
  intro W base args ds gs before hval0 hW _ _ hL _
  have hval : ∀ (j : Nat) t v, (Tryd.f8).params[j]? = some t → args[j]? = some v → Value.okWide Tryd.prog W .any base t v := hval0
  have hW' := hW
  obtain ⟨p, q, hA0, hV, rfl, hfz, hnd⟩ := hW
  have hA : DataW.TrodAll enc Tryd.prog W 0 (fun _ => true) true (Tryd.f8).params.toList args.toList ds p := hA0
  rw [Tryd.params8] at hA hval
  obtain ⟨v0, v1, d0, d1, p0, p1, rfl, rfl, rfl, h0, h1⟩ := trodAll_two hA
  obtain ⟨l_p, l, l_c, rfl, l_h, l_k⟩ := ints_of (hval 0 _ _ rfl rfl) h0
  obtain ⟨n, rfl, hn⟩ := int_of_ok (T := 3) (by kernel_rfl) (hval 1 _ _ rfl rfl)
  refine (waits_tr l l_p l_c n (kapOf W) (of_laid hL) l_k [] W (sat_of W)).mono fun e W' ⟨he, hs⟩ => ?_
  subst he
  refine ⟨_, rfl, post_true (tb := 4) laidOut hW' rfl rfl (below_of hs) ?_ (by kernel_rfl) (by kernel_rfl)⟩
  rw [Tryd.params8]
  intro t ht
  have hall : ([69, 3].all fun u => Tryd.prog.readableRec u && decide (u < Tryd.prog.types.size)) = true := by kernel_rfl
  have h5 := List.all_eq_true.1 hall t ht
  rw [Bool.and_eq_true] at h5
  exact ⟨h5.1, of_decide_eq_true h5.2⟩
theorem engineWaits_holds : Rows.EngineWaitsSaid :=
  OpenClaim.holds_of_wide 8 Tryd.f8 rfl rfl rfl rfl rfl rfl rfl ⟨rfl, rfl, rfl, rfl, rfl⟩ rfl rfl rfl rfl rfl (by kernel_rfl) Tryd.func8 (by kernel_rfl)
    (of_decide_eq_true (by kernel_rfl)) (by unfold Func.isWrapper; first | (rw [if_pos (by decide +kernel)]; kernel_rfl) | (rw [if_neg (by decide +kernel)]; exact ⟨rfl, rfl⟩))
    (fun os started H enc _ => engineWaits_lifted os started H enc)
theorem engineWaitsCard_holds : Rows.EngineWaitsCardSaid :=
  Claim7.holds_tied_plain_at .later [] [.data, .data, .widerDeep, .widerDeep] true (true, "de20976bb9abc0c7ddf704fc18d7d4f424036e793db8338a9ccbe2b467d619fd") false
    engineWaits_holds (fun _ h => by cases h) (by kernel_rfl) (fun _ h => by cases h) engineWaits_row_tie rfl ⟨rfl, rfl⟩ (by kernel_rfl) rfl
    (fun f fn hf hfn => by
      obtain rfl : f = 8 := Option.some.inj ((show Tryd.prog.funcNamed "pacioli/paciolilaw11.EngineWaits" = some 8 by kernel_rfl).symm.trans hf) |>.symm
      obtain rfl : fn = Tryd.f8 := (Option.some.inj (Tryd.func8.symm.trans hfn)).symm
      exact ⟨by kernel_rfl, fun j t ht => by
        rw [Tryd.params8] at ht
        have hm : t ∈ [69, 3] := by simpa using Array.mem_of_getElem? ht
        have hall : ([69, 3].all fun u => !Tryd.prog.wantsStandIn u) = true := by kernel_rfl
        exact (show Tryd.prog.wantsStandIn t = false by simpa using List.all_eq_true.1 hall t hm)⟩)
    (by kernel_rfl)
#print axioms engineWaitsCard_holds
end Go.Proofs.YtpcechnalfaajaaDoor
