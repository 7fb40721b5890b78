/- Part 8 of the proof: V23, V24, V25, U37, V30, V31, V32, V33, V34. -/
import Derived.Test.YtpcechnalfaajaaDoorP7
import Derived.OpenShut
import Derived.LaidMore
import Derived.Test.YtpcechnalfaajaaDoorRows
import Derived.ProofKit
import Derived.Stop.Joined
import Derived.Test.YtpcechnalfaajaaDoorP3
/- What batches keep; engines of two accounts. -/
namespace Go.Proofs.YtpcechnalfaajaaDoor
open Go Go.Proofs

theorem batch_I {ev : Eng.Evs} {I : Nat → Eng → Prop} (hp : ∀ e k m, k < ev.n → I m e → I (m + 2) (ev.do_ e k).1) (hmono : ∀ m m' e, I m e → m ≤ m' → I m' e) : ∀ (f i m : Nat) (e : Eng), i ≤ ev.n + 1 → I m e → I (m + 2 * (ev.n + 1 - i)) (Eng.batch ev f i e).1 := by
  intro f
  induction f with
  | zero => intro i m e _ h; exact hmono _ _ _ h (by omega)
  | succ f ih =>
    intro i m e hi h
    unfold Eng.batch
    split
    · rename_i hin
      have hc := chainEnd_le ev (ev.n - i) i
      have h1 := chain_I hp hmono (lo := i) (hi := Eng.chainEnd ev (ev.n - i) i) (by omega) h
      have h2 := ih (Eng.chainEnd ev (ev.n - i) i + 1) _ _ (by omega) h1
      exact hmono _ _ _ h2 (by omega)
    · exact hmono _ _ _ h (by omega)
theorem batchA_w {m : Nat} {e : Eng} (h : EngW m e) (l : List Account) : EngW (m + 2 * (l.length + 1)) (e.batchA l).1 :=
  batch_I (ev := Eng.evA l) (I := EngW) (fun _ _ _ _ h => makeAccount_w h _) (fun _ _ _ h => h.mono) l.length 0 m e (Nat.zero_le _) h
theorem batchT_w {m : Nat} {e : Eng} (h : EngW m e) (l : List Transfer) : EngW (m + 2 * (l.length + 1)) (e.batchT l).1 :=
  batch_I (ev := Eng.evT l) (I := EngW) (fun _ _ _ _ h => (makeTransfer_w h _).1) (fun _ _ _ h => h.mono) l.length 0 m e (Nat.zero_le _) h
theorem apply_w {m : Nat} {e : Eng} (h : EngW m e) (q : Req) (hf : q.from_ ≤ 9223372036854775807) (ha : q.accs.length ≤ 100) (ht : q.trs.length ≤ 100) : EngW (m + 600) (e.apply q).1.1 := by
  unfold Eng.apply
  split
  · exact (batchA_w h _).mono (by omega)
  split
  · exact (batchT_w h _).mono (by omega)
  split
  · rename_i h3
    have h1 := (tick_w h q.from_ ⟨by omega, hf⟩ e.trs.length).1
    have := h.lt
    exact EngW.mono h1 (by omega)
  · exact h.mono (by omega)
theorem do1_w {m : Nat} {e : Eng} (h : EngW m e) (t : Transfer) : EngW (m + 4) (do1 e t).1 := batchT_w h [t]
/-- One event that is not linked. -/
theorem do1_eq {e : Eng} {t : Transfer} (h : band t.flags 1 = 0) : do1 e t = if (e.makeTransfer t).2 = 0 then ((e.makeTransfer t).1, 0) else (e, (e.makeTransfer t).2) := by
  unfold do1 Eng.batchT
  have hce : Eng.chainEnd (Eng.evT [t]) 1 0 = 0 := by
    show (if band t.flags 1 ≠ 0 then _ else 0) = 0
    rw [if_neg (by simp [h])]
  have hrun : Eng.run (Eng.evT [t]) 1 0 e = if (e.makeTransfer t).2 = 0 then ((e.makeTransfer t).1, none) else ((e.makeTransfer t).1, some (0, (e.makeTransfer t).2)) := rfl
  have hch : Eng.chain (Eng.evT [t]) 0 0 e = if (e.makeTransfer t).2 = 0 then ((e.makeTransfer t).1, []) else (e, [(0, (e.makeTransfer t).2)]) := by
    split
    · rename_i h0
      rw [if_pos h0] at hrun
      rw [chain_none (m := 1) rfl hrun]; rfl
    · rename_i h0
      rw [if_neg h0] at hrun
      rw [chain_some (m := 1) rfl hrun]; rfl
  have hb : Eng.batch (Eng.evT [t]) 1 0 e = ((Eng.chain (Eng.evT [t]) 0 0 e).1, (Eng.chain (Eng.evT [t]) 0 0 e).2 ++ []) := by
    show (let hi := Eng.chainEnd (Eng.evT [t]) 1 0
      let r := Eng.chain (Eng.evT [t]) 0 hi e
      let s := Eng.batch (Eng.evT [t]) 0 (hi + 1) r.1
      (s.1, r.2 ++ s.2)) = _
    rw [hce]; rfl
  show ((Eng.batch (Eng.evT [t]) 1 0 e).1, codeOf (Eng.batch (Eng.evT [t]) 1 0 e).2) = _
  rw [hb, hch]
  split
  · rfl
  · rfl
/-- An engine of two accounts. -/
def Two (x y : Account) (T : List Transfer) (ra rb : List Row) (tm now : Int) : Eng := ⟨[x, y], T, [ra, rb], tm, now⟩
def rowOf (t : Num) (tm ev : Int) (n : Num) (x : Account) : Row := ⟨t, tm, ev, n, x.dp, x.dq, x.cp, x.cq⟩
def wRow (x : Account) (l : List Row) : Account := { x with rows := l.length, root := rootN (l.map leafR) }
theorem add_two (x y : Account) (T : List Transfer) (ra rb : List Row) (tm now : Int) (t : Transfer) (n : Num) : (Two x y T ra rb tm now).add t n 0 1 =
    Two (wRow x (ra ++ [rowOf t.id (tm + 1) (bclr t.flags 1) n x])) (wRow y (rb ++ [rowOf t.id (tm + 1) (bclr t.flags 1) n y])) (T ++ [{ t with time := tm + 1, tick := now }]) (ra ++ [rowOf t.id (tm + 1) (bclr t.flags 1) n x]) (rb ++ [rowOf t.id (tm + 1) (bclr t.flags 1) n y]) (tm + 1) now := rfl
theorem post_two (x y : Account) (T : List Transfer) (ra rb : List Row) (tm now : Int) (n : Num) : (Two x y T ra rb tm now).post n 0 1 = Two { x with dq := addN [x.dq, n] } { y with cq := addN [y.cq, n] } T ra rb tm now := rfl
theorem release_two (x y : Account) (T : List Transfer) (ra rb : List Row) (tm now : Int) (p : Transfer) (held : Num) (nothing : Bool) : (Two x y T ra rb tm now).release p held 0 1 nothing =
    Two { x with dp := subN x.dp held, flags := if nothing = true ∧ band p.flags 64 ≠ 0 then bclr x.flags 8 else x.flags } { y with cp := subN y.cp held, flags := if nothing = true ∧ band p.flags 128 ≠ 0 then bclr y.flags 8 else y.flags } T ra rb tm now := by
  unfold Eng.release
  by_cases h1 : nothing = true ∧ band p.flags 64 ≠ 0
  · by_cases h2 : nothing = true ∧ band p.flags 128 ≠ 0
    · simp only [if_pos h1, if_pos h2]; rfl
    · simp only [if_pos h1, if_neg h2]; rfl
  · by_cases h2 : nothing = true ∧ band p.flags 128 ≠ 0
    · simp only [if_neg h1, if_pos h2]; rfl
    · simp only [if_neg h1, if_neg h2]; rfl
theorem addN_zero (n : Num) : addN [0, n] = n ∧ addN [n, 0] = n ∧ fitN [0, n] = true ∧ fitN [n, 0] = true := by
  have := n.isLt
  have h : n.toNat < 340282366920938463463374607431768211456 := this
  unfold addN fitN
  simp [h]
theorem subN_self (n : Num) : subN n n = 0 := by unfold subN; simp
end Go.Proofs.YtpcechnalfaajaaDoor

/- The laws' plain sides: two accounts. -/
namespace Go.Proofs.YtpcechnalfaajaaDoor
open Go Go.Proofs

def acc1 : Account := ⟨1, 1, 0, 0, 0, 0, 0, 1, 0, rootN []⟩
def acc2 : Account := ⟨2, 1, 0, 0, 0, 0, 0, 2, 0, rootN []⟩
def two0 : Eng := Two acc1 acc2 [] [] [] 2 0
theorem two_apply (p : Option Addr) (c : Nat) : (Eng.empty.apply (reqA p [acctN 1, acctN 2] c)).1.1 = two0 := by kernel_rfl
theorem two0_w : EngW 600 two0 := by
  have := apply_w empty_w (reqA none [acctN 1, acctN 2] 2) (by decide) (by decide) (by decide)
  rw [two_apply] at this
  exact this
theorem within0 {x : Account} (h2 : band x.flags 2 = 0) (h4 : band x.flags 4 = 0) : withinA x = true := by unfold withinA; simp [h2, h4]
/-- A first transfer that is done. -/
theorem first_ok (x y : Account) (T : List Transfer) (ra rb : List Row) (tm now : Int) (t : Transfer) (n : Num) (hn : Eng.firstAmount t x y = n) (ho : firO t n x = true) (hi : firI t n y = true) (hf : fitN [(firX t n x).dp, (firX t n x).dq] = true) (hg : fitN [(firY t n y).cp, (firY t n y).cq] = true)
    (hw : withinA (firX t n x) = true) (hv : withinA (firY t n y) = true) : (Two x y T ra rb tm now).first t 0 1 = ((Two (firC t 64 (firX t n x)) (firC t 128 (firY t n y)) T ra rb tm now).add { t with state := if pendT t then 1 else 0 } n 0 1, 0) := by
  rw [first_eq (Two x y T ra rb tm now) t 0 1 (x0 := x) (y0 := y) rfl rfl hn rfl rfl rfl rfl]
  rw [if_neg (by rw [ho, hi, hf, hg]; simp), if_neg (by rw [hw]; simp), if_neg (by rw [hv]; simp)]
  rfl
theorem first_pend (x y : Account) (T : List Transfer) (ra rb : List Row) (tm now : Int) (t : Transfer) (n : Num) (hp : pendT t = true) (hn : Eng.firstAmount t x y = n) (ho : fitN [x.dp, n] = true) (hi : fitN [y.cp, n] = true) (hf : fitN [addN [x.dp, n], x.dq] = true) (hg : fitN [addN [y.cp, n], y.cq] = true)
    (hw : withinA { x with dp := addN [x.dp, n] } = true) (hv : withinA { y with cp := addN [y.cp, n] } = true) : (Two x y T ra rb tm now).first t 0 1 = ((Two (firC t 64 { x with dp := addN [x.dp, n] }) (firC t 128 { y with cp := addN [y.cp, n] }) T ra rb tm now).add { t with state := 1 } n 0 1, 0) := by
  have e1 : firX t n x = { x with dp := addN [x.dp, n] } := if_pos hp
  have e2 : firY t n y = { y with cp := addN [y.cp, n] } := if_pos hp
  have e3 : firO t n x = fitN [x.dp, n] := if_pos hp
  have e4 : firI t n y = fitN [y.cp, n] := if_pos hp
  rw [first_ok x y T ra rb tm now t n hn (by rw [e3, ho]) (by rw [e4, hi]) (by rw [e1]; exact hf) (by rw [e2]; exact hg) (by rw [e1]; exact hw) (by rw [e2]; exact hv), e1, e2, hp]
  rfl
theorem first_now (x y : Account) (T : List Transfer) (ra rb : List Row) (tm now : Int) (t : Transfer) (n : Num) (hp : pendT t = false) (hn : Eng.firstAmount t x y = n) (ho : fitN [x.dq, n] = true) (hi : fitN [y.cq, n] = true) (hf : fitN [x.dp, addN [x.dq, n]] = true) (hg : fitN [y.cp, addN [y.cq, n]] = true)
    (hw : withinA { x with dq := addN [x.dq, n] } = true) (hv : withinA { y with cq := addN [y.cq, n] } = true) : (Two x y T ra rb tm now).first t 0 1 = ((Two (firC t 64 { x with dq := addN [x.dq, n] }) (firC t 128 { y with cq := addN [y.cq, n] }) T ra rb tm now).add { t with state := 0 } n 0 1, 0) := by
  have hp' : ¬ pendT t = true := by rw [hp]; simp
  have e1 : firX t n x = { x with dq := addN [x.dq, n] } := if_neg hp'
  have e2 : firY t n y = { y with cq := addN [y.cq, n] } := if_neg hp'
  have e3 : firO t n x = fitN [x.dq, n] := if_neg hp'
  have e4 : firI t n y = fitN [y.cq, n] := if_neg hp'
  rw [first_ok x y T ra rb tm now t n hn (by rw [e3, ho]) (by rw [e4, hi]) (by rw [e1]; exact hf) (by rw [e2]; exact hg) (by rw [e1]; exact hw) (by rw [e2]; exact hv), e1, e2, hp]
  rfl
theorem secE_ok {t p : Transfer} {held : Num} (h1 : band p.flags 2 ≠ 0) (h2 : p.state = 1) (h3 : mis t p = false) (h4 : ¬ (held.toNat < (secN t held).toNat ∨ ((secN t held).toNat < held.toNat ∧ band t.flags 8 ≠ 0))) : secE t p held = 0 := by
  unfold secE
  rw [if_neg h1, if_neg (by rw [h2]; decide), if_neg (by rw [h2]; decide), if_neg (by rw [h3]; simp), if_neg h4]
theorem secF_void (x y : Account) (T : List Transfer) (ra rb : List Row) (tm now : Int) (t p : Transfer) (k : Nat) (held n : Num) (h8 : band t.flags 8 ≠ 0) (h4 : band t.flags 4 = 0) : secF (Two x y T ra rb tm now) t p k 0 1 held n =
    (Two { x with dp := subN x.dp held, flags := if band p.flags 64 ≠ 0 then bclr x.flags 8 else x.flags } { y with cp := subN y.cp held, flags := if band p.flags 128 ≠ 0 then bclr y.flags 8 else y.flags } (T.set k { T.getD k zT with state := 3 }) ra rb tm now).add { t with state := 0 } n 0 1 := by
  unfold secF
  rw [decide_eq_true h8, release_two]
  simp only [if_neg (show ¬ band t.flags 4 ≠ 0 by simp [h4]), true_and]
  rfl
theorem secF_post (x y : Account) (T : List Transfer) (ra rb : List Row) (tm now : Int) (t p : Transfer) (k : Nat) (held n : Num) (h8 : band t.flags 8 = 0) (h4 : band t.flags 4 ≠ 0) : secF (Two x y T ra rb tm now) t p k 0 1 held n =
    (Two { x with dp := subN x.dp held, dq := addN [x.dq, n] } { y with cp := subN y.cp held, cq := addN [y.cq, n] } ((T.set k { T.getD k zT with state := 3 }).set k { (T.set k { T.getD k zT with state := 3 }).getD k zT with state := 2 }) ra rb tm now).add { t with state := 0 } n 0 1 := by
  unfold secF
  rw [decide_eq_false (show ¬ band t.flags 8 ≠ 0 by simp [h8]), release_two]
  simp only [if_pos h4]
  rfl
/-- EngineClosed's transfers. -/
def clT (side : Bool) (n : Num) : Transfer := ⟨1, 1, 2, n, 0, 0, 1, if side then 130 else 66, 0, 0, 0⟩
def clP : Transfer := ⟨9, 1, 2, 0, 0, 0, 1, 0, 0, 0, 0⟩
def clS (how : Bool) : Transfer := ⟨2, 0, 0, 0, 1, 0, 0, if how then 8 else 4, 0, 0, 0⟩
def clWant (side : Bool) : Int := if side then 27 else 26
theorem clT_first (side : Bool) (n : Num) : two0.makeTransfer (clT side n) = two0.first (clT side n) 0 1 := by cases side <;> kernel_rfl
def clE1 (side : Bool) (n : Num) (w1 w2 : Int) (h1 h2 : Hash) (s : Row) : Eng :=
  Two ⟨1, 1, if side then 0 else 8, n, 0, 0, 0, 1, w1, h1⟩ ⟨2, 1, if side then 8 else 0, 0, 0, n, 0, 2, w2, h2⟩ [{ clT side n with time := 3, state := 1 }] [⟨1, 3, if side then 130 else 66, n, n, 0, 0, 0⟩] [s] 3 0
theorem closed_one (side : Bool) (n : Num) : ∃ w1 w2 h1 h2 s, do1 two0 (clT side n) = (clE1 side n w1 w2 h1 h2 s, 0) := by
  obtain ⟨z1, z2, z3, z4⟩ := addN_zero n
  have a1 : addN [acc1.dp, n] = n := z1
  have a2 : addN [acc2.cp, n] = n := z1
  have hf := first_pend acc1 acc2 [] [] [] 2 0 (clT side n) n (by cases side <;> kernel_rfl) (by cases side <;> kernel_rfl) z3 z3 (by rw [a1]; exact z4) (by rw [a2]; exact z4) (within0 (by kernel_rfl) (by kernel_rfl)) (within0 (by kernel_rfl) (by kernel_rfl))
  rw [a1, a2] at hf
  have c1 : firC (clT side n) 64 { acc1 with dp := n } = { acc1 with dp := n, flags := if side then 0 else 8 } := by cases side <;> kernel_rfl
  have c2 : firC (clT side n) 128 { acc2 with cp := n } = { acc2 with cp := n, flags := if side then 8 else 0 } := by cases side <;> kernel_rfl
  rw [c1, c2, add_two] at hf
  rw [do1_eq (by cases side <;> kernel_rfl), clT_first, show two0.first (clT side n) 0 1 = _ from hf, if_pos rfl]
  refine ⟨1, 1, rootN ([rowOf 1 3 (bclr (clT side n).flags 1) n { acc1 with dp := n, flags := if side then 0 else 8 }].map leafR), rootN ([rowOf 1 3 (bclr (clT side n).flags 1) n { acc2 with cp := n, flags := if side then 8 else 0 }].map leafR), rowOf 1 3 (bclr (clT side n).flags 1) n { acc2 with cp := n, flags := if side then 8 else 0 }, ?_⟩
  cases side <;> kernel_rfl
theorem do1_bad {e : Eng} {t : Transfer} {c : Int} (h : band t.flags 1 = 0) (hc : (e.makeTransfer t).2 = c) (h0 : c ≠ 0) : do1 e t = (e, c) := by
  rw [do1_eq h, hc, if_neg h0]
theorem do1_ok {e e' : Eng} {t : Transfer} (h : band t.flags 1 = 0) (hc : e.makeTransfer t = (e', 0)) : do1 e t = (e', 0) := by
  rw [do1_eq h, hc, if_pos rfl]
theorem closed_law (side how : Bool) (n : Num) : (do1 two0 (clT side n)).2 = 0 ∧ (do1 (do1 two0 (clT side n)).1 clP).2 = clWant side ∧ (do1 (do1 (do1 two0 (clT side n)).1 clP).1 (clS how)).2 = 0 ∧
    (do1 (do1 (do1 (do1 two0 (clT side n)).1 clP).1 (clS how)).1 clP).2 = if how then 0 else clWant side := by
  obtain ⟨w1, w2, h1, h2, s, e1⟩ := closed_one side n
  rw [e1]
  have e2 : do1 (clE1 side n w1 w2 h1 h2 s) clP = (clE1 side n w1 w2 h1 h2 s, clWant side) := do1_bad (by kernel_rfl) (by cases side <;> kernel_rfl) (by cases side <;> decide)
  simp only
  rw [e2]
  have hm : (clE1 side n w1 w2 h1 h2 s).makeTransfer (clS how) = (clE1 side n w1 w2 h1 h2 s).second (clS how) := by cases side <;> cases how <;> kernel_rfl
  have hs := second_some (e := clE1 side n w1 w2 h1 h2 s) (t := clS how) (p := { clT side n with time := 3, state := 1 }) (k := 0) (held := n) (by cases side <;> cases how <;> kernel_rfl) (by cases side <;> kernel_rfl) (by cases side <;> kernel_rfl)
  have hN : secN (clS how) n = n := by cases how <;> kernel_rfl
  have hE : secE (clS how) { clT side n with time := 3, state := 1 } n = 0 := secE_ok (by cases side <;> exact of_decide_eq_true (by kernel_rfl)) rfl (by cases side <;> cases how <;> kernel_rfl) (by rw [hN]; omega)
  rw [hE, hN, if_neg (by simp)] at hs
  have hd : (posN ({ clT side n with time := 3, state := 1 } : Transfer).debit (clE1 side n w1 w2 h1 h2 s).ids).getD 0 = 0 := by cases side <;> kernel_rfl
  have hc : (posN ({ clT side n with time := 3, state := 1 } : Transfer).credit (clE1 side n w1 w2 h1 h2 s).ids).getD 0 = 1 := by cases side <;> kernel_rfl
  rw [hd, hc] at hs
  have e3 := do1_ok (by cases how <;> kernel_rfl) (hm.trans hs)
  rw [e3]
  refine ⟨trivial, rfl, rfl, ?_⟩
  simp only
  have hz := subN_self n
  cases how with
  | true =>
    have hv := secF_void ⟨1, 1, if side then 0 else 8, n, 0, 0, 0, 1, w1, h1⟩ ⟨2, 1, if side then 8 else 0, 0, 0, n, 0, 2, w2, h2⟩ [{ clT side n with time := 3, state := 1 }] [⟨1, 3, if side then 130 else 66, n, n, 0, 0, 0⟩] [s] 3 0 (clS true) { clT side n with time := 3, state := 1 } 0 n n (of_decide_eq_true (by kernel_rfl)) (by kernel_rfl)
    simp only at hv
    rw [hz] at hv
    rw [show secF (clE1 side n w1 w2 h1 h2 s) (clS true) _ 0 0 1 n n = _ from hv]
    have : ∀ (e : Eng) (c : Int), (e.makeTransfer clP).2 = c → (do1 e clP).2 = c := fun e c h => by
      rw [do1_eq (by kernel_rfl), h]
      split
      · rename_i h; exact h.symm
      · rfl
    exact this _ 0 (by cases side <;> kernel_rfl)
  | false =>
    have hv := secF_post ⟨1, 1, if side then 0 else 8, n, 0, 0, 0, 1, w1, h1⟩ ⟨2, 1, if side then 8 else 0, 0, 0, n, 0, 2, w2, h2⟩ [{ clT side n with time := 3, state := 1 }] [⟨1, 3, if side then 130 else 66, n, n, 0, 0, 0⟩] [s] 3 0 (clS false) { clT side n with time := 3, state := 1 } 0 n n (by kernel_rfl) (of_decide_eq_true (by kernel_rfl))
    rw [show secF (clE1 side n w1 w2 h1 h2 s) (clS false) _ 0 0 1 n n = _ from hv]
    have : ∀ (e : Eng) (c : Int), (e.makeTransfer clP).2 = c → (do1 e clP).2 = c := fun e c h => by
      rw [do1_eq (by kernel_rfl), h]
      split
      · rename_i h; exact h.symm
      · rfl
    exact this _ (clWant side) (by cases side <;> kernel_rfl)
end Go.Proofs.YtpcechnalfaajaaDoor

/- The laws' steps with rows ahead. -/
namespace Go.Proofs.YtpcechnalfaajaaDoor
open Go Go.Proofs

theorem Te.behind {ι : Type} {P : Program} {f : FuncId} {args : List Value} {κ : Kap} {b : Nat} {e e' : Eng} {i : EngI} {z : HProp} {cs : List HProp} {p : ι → Prop} {r : ι → Value} {j : ι → EngI} (F : List HProp)
    (h : Te P f args κ (z :: engO b e i (F ++ cs)) p r (fun x => z :: engO b e' (j x) (F ++ cs))) : Te P f args κ (z :: (F ++ engO b e i cs)) p r (fun x => z :: (F ++ engO b e' (j x) cs)) :=
  fun w hs => (h w (hs.imp fun _ hg => sepL_tails (F := [_]) (fun _ hg => (eng_back F).1 hg) hg)).mono fun _ _ ⟨x, h0, h1, h2⟩ => ⟨x, h0, h1, h2.imp fun _ hg => sepL_tails (F := [_]) (fun _ hg => (eng_back F).2 hg) hg⟩
/-- Two accounts are made. -/
theorem two_tr (b _ : Nat) (i : EngI) (hi : i.lb.length = Eng.empty.rws.length) (bq c : Nat) (κ : Kap) (hκ : Laid κ) (x y : HProp) (cs : List HProp) :
    Te Tryd.prog 16 [.pointer (some ⟨b, 0, none⟩), .agg (reqC (reqA (some ⟨bq, 0, none⟩) [acctN 1, acctN 2] c)).toArray] κ (pts bq (37, [acctN 1, acctN 2].flatMap encA) :: x :: y :: engO b Eng.empty i cs) (fun z : EngI × Value => z.1.lb.length = two0.rws.length)
      (fun z => z.2) (fun z => x :: y :: engO b two0 z.1 cs) := fun w hs => by
  have h := applyF_tr [pts bq (37, [acctN 1, acctN 2].flatMap encA), x, y] b Eng.empty i hi (m := 0) (by omega) empty_w (reqA (some ⟨bq, 0, none⟩) [acctN 1, acctN 2] c) (by simp [reqA]) (by simp [reqA]) (by simp [reqA]) κ hκ [pts bq (37, [acctN 1, acctN 2].flatMap encA)] cs ⟨[], _, rfl⟩ (.inr ⟨bq, 0, rfl, .ofRd (h := .head)⟩) (.inl rfl)
  rw [two_apply] at h
  exact (h w hs).mono fun _ _ ⟨z, h0, h1, h2⟩ => ⟨(z.1, _), h0, h1, h2.rows.rows⟩
theorem doC1_tr (b b8 : Nat) (e : Eng) (i : EngI) (hi : i.lb.length = e.rws.length) {m : Nat} (hm : m + 8000 < 70000) (hW : EngW m e) (t : Transfer) (κ : Kap) (hκ : Laid κ) (x : HProp) (cs : List HProp) :
    Te Tryd.prog 25 [.agg (encT t).toArray, .pointer (some ⟨b8, 0, none⟩)] κ (boxE b8 b :: x :: engO b e i cs) (fun i' : EngI => i'.lb.length = (do1 e t).1.rws.length) (fun _ => .int .i64 (do1 e t).2) (fun i' => boxE b8 b :: x :: engO b (do1 e t).1 i' cs) :=
  Te.behind [x] (doC_tr b b8 e i hi hm hW t κ hκ (x :: cs))
theorem doC2_tr (b b8 : Nat) (e : Eng) (i : EngI) (hi : i.lb.length = e.rws.length) {m : Nat} (hm : m + 8000 < 70000) (hW : EngW m e) (t : Transfer) (κ : Kap) (hκ : Laid κ) (x y : HProp) (cs : List HProp) :
    Te Tryd.prog 25 [.agg (encT t).toArray, .pointer (some ⟨b8, 0, none⟩)] κ (boxE b8 b :: x :: y :: engO b e i cs) (fun i' : EngI => i'.lb.length = (do1 e t).1.rws.length) (fun _ => .int .i64 (do1 e t).2) (fun i' => boxE b8 b :: x :: y :: engO b (do1 e t).1 i' cs) :=
  Te.behind [x, y] (doC_tr b b8 e i hi hm hW t κ hκ (x :: y :: cs))
theorem doS1_tr (b b8 : Nat) (e : Eng) (i : EngI) (hi : i.lb.length = e.rws.length) {m : Nat} (hm : m + 8000 < 70000) (hW : EngW m e) (t : Transfer) (κ : Kap) (hκ : Laid κ) (x : HProp) (cs : List HProp) :
    Te Tryd.prog 18 [.agg (encT t).toArray, .pointer (some ⟨b8, 0, none⟩)] κ (boxE b8 b :: x :: engO b e i cs) (fun i' : EngI => i'.lb.length = (do1 e t).1.rws.length) (fun _ => .int .i64 (do1 e t).2) (fun i' => boxE b8 b :: x :: engO b (do1 e t).1 i' cs) :=
  Te.behind [x] (doS_tr b b8 e i hi hm hW t κ hκ (x :: cs))
theorem doS2_tr (b b8 : Nat) (e : Eng) (i : EngI) (hi : i.lb.length = e.rws.length) {m : Nat} (hm : m + 8000 < 70000) (hW : EngW m e) (t : Transfer) (κ : Kap) (hκ : Laid κ) (x y : HProp) (cs : List HProp) :
    Te Tryd.prog 18 [.agg (encT t).toArray, .pointer (some ⟨b8, 0, none⟩)] κ (boxE b8 b :: x :: y :: engO b e i cs) (fun i' : EngI => i'.lb.length = (do1 e t).1.rws.length) (fun _ => .int .i64 (do1 e t).2) (fun i' => boxE b8 b :: x :: y :: engO b (do1 e t).1 i' cs) :=
  Te.behind [x, y] (doS_tr b b8 e i hi hm hW t κ hκ (x :: y :: cs))
end Go.Proofs.YtpcechnalfaajaaDoor

/- The law EngineClosed. -/
namespace Go.Proofs.YtpcechnalfaajaaDoor
open Go Go.Proofs

set_option maxHeartbeats 2000000 in
theorem closed_tr (side how : Bool) (n : Num) (κ : Kap) (hκ : Laid κ) (cs : List HProp) : Tr Tryd.prog 6 [.bool side, .bool how, .agg (nm n).toArray] κ cs (.bool true) cs := by
  refine .enter Tryd.func6 rfl rfl ?_
  refine .seq ?_
  refine .reg ?_
  refine .bx fun b5 => ?_
  refine .as ?_
  refine .go ?_
  refine .seq ?_
  refine .seq ?_
  refine .reg ?_
  rw [vc_agg]
  refine .cl (fit_tr κ hκ _) ?_
  refine .nt ?_
  refine .go ?_
  refine .cond rfl (fun hc => by cases hc) (fun hc => ?_)
  refine .go ?_
  refine .seq ?_
  refine .reg ?_
  refine .ce (newO_tr κ _) (fun x hx => ?_)
  generalize x.1 = b at *
  generalize x.2 = i at *
  refine .al fun b7 => ?_
  refine .st ?_
  refine .go ?_
  refine .seq ?_
  refine .sat (cs' := boxE b7 b :: pts b5 (24, nm n) :: engO b Eng.empty i cs) (fun w hs => hs.imp fun _ hg => sepL_tails (F := [_]) (fun _ hg => (eng_back [_]).2 hg) hg) ?_
  refine .regD [(b7, 0, [ptrV b])] [] ?_
  refine .ld 0 ?_
  refine .cl 1 (of_tr 1 (by decide) κ _) ?_
  refine .bd 2 (r := encA (acctN 1)) ?_ rfl ⟨inferInstance, inferInstance, rfl, by kernel_rfl⟩
  refine .cl 3 (of_tr 2 (by decide) κ _) ?_
  refine .bd 4 (r := encA (acctN 2)) ?_ rfl ⟨inferInstance, inferInstance, rfl, by kernel_rfl⟩
  refine .bs 5 (r := [acctN 1, acctN 2].flatMap encA) (fun b25 => ?_) rfl ⟨inferInstance, inferInstance, ⟨rfl, rfl, rfl, rfl⟩, rfl, by kernel_rfl⟩
  refine .bd 6 (r := reqC (reqA (some ⟨b25, 0, none⟩) [acctN 1, acctN 2] 2)) ?_ rfl ⟨inferInstance, inferInstance, rfl, by kernel_rfl⟩
  refine .ce 7 (two_tr b b7 i hx b25 2 κ hκ _ _ _) (fun z hz => ?_)
  generalize z.1 = i1 at *
  generalize z.2 = v27
  refine .go ?_
  refine .seq ?_
  refine .reg ?_
  refine .mf ?_
  refine .as ?_
  refine .go ?_
  refine .seq ?_
  refine .reg ?_
  refine .as ?_
  refine .as ?_
  refine .go ?_
  refine .jn (ι := Unit) (fun _ => [(0, .bool side), (1, .bool how), (5, .pointer (some ⟨b5, 0, none⟩)), (6, .bool false), (7, .pointer (some ⟨b7, 0, none⟩)), (8, .func (.func 25) #[] #[.pointer (some ⟨b7, 0, none⟩)]), (9, .int .i64 (if side then 128 else 64)), (10, .int .i64 (clWant side))])
    (fun _ => boxE b7 b :: pts b5 (24, nm n) :: engO b two0 i1 cs) (fun _ => True) ?_ fun _ _ => ?_
  · refine .seq ?_
    refine .reg ?_
    refine .mv ?_
    refine .go ?_
    refine .cond rfl (fun hc => ?_) (fun hc => ?_)
    · subst hc
      refine .reg ?_
      refine .as ?_
      refine .as ?_
      exact .nil fun aa w hf hs => ⟨(), trivial, hf.to (by repeat (first | exact trivial | refine ⟨rfl, ?_⟩)), hs⟩
    · subst hc
      exact .skip fun aa w hf hs => ⟨(), trivial, hf.to (by repeat (first | exact trivial | refine ⟨rfl, ?_⟩)), hs⟩
  obtain ⟨l1, l2, l3, l4⟩ := closed_law side how n
  have w1 := do1_w two0_w (clT side n)
  have w2 := do1_w w1 clP
  have w3 := do1_w w2 (clS how)
  refine .seq ?_
  refine .reg ?_
  refine .cl (of_tr 9 (by decide) κ _) ?_
  refine .cl (of_tr 1 (by decide) κ _) ?_
  refine .cl (of_tr 2 (by decide) κ _) ?_
  refine .bd (r := encT clP) ?_ ⟨inferInstance, inferInstance, rfl, by kernel_rfl⟩
  refine .al fun b11 => ?_
  refine .stw (v := .agg (encT clP).toArray) ?_
  rw [vc_agg]
  refine .pm 3 [1, 0, 2] ?_
  refine .go ?_
  refine .seq ?_
  refine .regD [(b7, 0, [ptrV b]), (b5, 0, nm n)] [] ?_
  refine .mv 0 ?_
  refine .ldw 4 ?_
  refine .mv 5 ?_
  refine .or 6 ?_
  rw [show borK .i64 2 (if side = true then 128 else 64) = (if side = true then 130 else 66) from by cases side <;> kernel_rfl]
  refine .cl 1 (of_tr 1 (by decide) κ _) ?_
  refine .cl 2 (of_tr 1 (by decide) κ _) ?_
  refine .cl 3 (of_tr 2 (by decide) κ _) ?_
  refine .bd 7 (r := encT (clT side n)) ?_ rfl ⟨inferInstance, inferInstance, rfl, by kernel_rfl⟩
  refine .ceV 8 (fst := []) (cap := [.pointer (some ⟨b7, 0, none⟩)]) (vs := [.agg (encT (clT side n)).toArray]) (doC2_tr b b7 two0 i1 hz (by omega) two0_w (clT side n) κ hκ _ _ _) (fun i2 h2 => ?_)
  rw [l1]
  generalize (do1 two0 (clT side n)).1 = E1 at *
  refine .as 9 ?_
  refine .go ?_
  refine .seq ?_
  refine .reg ?_
  refine .mv ?_
  refine .ld (v := .agg (encT clP).toArray) ?_
  refine .ceV (fst := []) (cap := [.pointer (some ⟨b7, 0, none⟩)]) (vs := [.agg (encT clP).toArray]) (doC2_tr b b7 E1 i2 h2 (by omega) w1 clP κ hκ _ _ _) (fun i3 h3 => ?_)
  rw [l2]
  generalize (do1 E1 clP).1 = E2 at *
  refine .as ?_
  refine .go ?_
  refine .seq ?_
  refine .reg ?_
  refine .cl (of_tr 2 (by decide) κ _) ?_
  refine .cl (of_tr 1 (by decide) κ _) ?_
  refine .bd (r := encT (clS false)) ?_ ⟨inferInstance, inferInstance, rfl, by kernel_rfl⟩
  refine .al fun b14 => ?_
  refine .stw (v := .agg (encT (clS false)).toArray) ?_
  rw [vc_agg]
  refine .go ?_
  refine .jn (ι := Unit) (fun _ => [(0, .bool side), (1, .bool how), (5, .pointer (some ⟨b5, 0, none⟩)), (6, .bool false), (7, .pointer (some ⟨b7, 0, none⟩)), (8, .func (.func 25) #[] #[.pointer (some ⟨b7, 0, none⟩)]), (10, .int .i64 (clWant side)), (11, .pointer (some ⟨b11, 0, none⟩)), (12, .int .i64 0), (13, .int .i64 (clWant side)), (14, .pointer (some ⟨b14, 0, none⟩))])
    (fun _ => boxE b7 b :: pts b14 (43, encT (clS how)) :: pts b11 (43, encT clP) :: engO b E2 i3 cs) (fun _ => True) ?_ fun _ _ => ?_
  · refine .seq ?_
    refine .reg ?_
    refine .mv ?_
    refine .go ?_
    refine .cond rfl (fun hc => ?_) (fun hc => ?_)
    · subst hc
      refine .reg ?_
      refine .fa ?_
      refine .sx (r' := encT (clS true)) (by kernel_rfl) ?_
      exact .nil fun aa w hf hs => ⟨(), trivial, hf.to (by repeat (first | exact trivial | refine ⟨rfl, ?_⟩)), hs.pm 4 [1, 0, 2]⟩
    · subst hc
      exact .skip fun aa w hf hs => ⟨(), trivial, hf.to (by repeat (first | exact trivial | refine ⟨rfl, ?_⟩)), hs.pm 4 [1, 0, 2]⟩
  refine .seq ?_
  refine .reg ?_
  refine .mv ?_
  refine .ld (v := .agg (encT (clS how)).toArray) ?_
  refine .ceV (fst := []) (cap := [.pointer (some ⟨b7, 0, none⟩)]) (vs := [.agg (encT (clS how)).toArray]) (doC2_tr b b7 E2 i3 h3 (by omega) w2 (clS how) κ hκ _ _ _) (fun i4 h4 => ?_)
  rw [l3]
  generalize (do1 E2 (clS how)).1 = E3 at *
  refine .as ?_
  refine .go ?_
  refine .seq ?_
  refine .reg ?_
  refine .mv ?_
  refine .ld (v := .agg (encT clP).toArray) ?_
  refine .ceV (fst := []) (cap := [.pointer (some ⟨b7, 0, none⟩)]) (vs := [.agg (encT clP).toArray]) (doC2_tr b b7 E3 i4 h4 (by omega) w3 clP κ hκ _ _ _) (fun i5 h5 => ?_)
  rw [l4]
  generalize (do1 E3 clP).1 = E4 at *
  have hend : ∀ w, Sat κ w (boxE b7 b :: pts b14 (43, encT (clS how)) :: pts b11 (43, encT clP) :: engO b E4 i5 cs) → Sat κ w cs := fun w hs => by
    have h1 : Sat κ w ([_, _, _, _, _, _] ++ (rowsP E4.rws i5.lb ++ cs)) := hs.pm 3 []
    have h2 : Sat κ w (rowsP E4.rws i5.lb ++ cs) := h1.imp fun g hg => sepL_cut [] [_, _, _, _, _, _] hg
    exact h2.imp fun g hg => sepL_cut [] (rowsP E4.rws i5.lb) hg
  refine .as ?_
  refine .go ?_
  refine .seq ?_
  refine .seq ?_
  refine .reg ?_
  refine .mv ?_
  refine .go ?_
  refine .cond rfl (fun hc => ?_) (fun hc => ?_)
  · subst hc
    refine .seq ?_
    refine .reg ?_
    refine .mv ?_
    refine .eq ?_
    refine .mv ?_
    refine .mv ?_
    refine .mv ?_
    refine .eq ?_
    rw [decide_eq_true (p := clWant side = clWant side) rfl]
    first | refine .pt ?_ | refine .pf ?_
    refine .mv ?_
    refine .mv ?_
    refine .eq ?_
    first | refine .pt ?_ | refine .pf ?_
    refine .mv ?_
    refine .mv ?_
    rw [show (if true = true then (0 : Int) else clWant side) = 0 from if_pos rfl]
    refine .eq ?_
    first | refine .pt ?_ | refine .pf ?_
    refine .as ?_
    refine .go ?_
    refine .r1 fun w hs => ?_
    exact ⟨rfl, hend w hs⟩
  · subst hc
    refine .go ?_
    refine .seq ?_
    refine .reg ?_
    refine .mv ?_
    refine .eq ?_
    refine .mv ?_
    refine .mv ?_
    refine .mv ?_
    refine .eq ?_
    rw [decide_eq_true (p := clWant side = clWant side) rfl]
    first | refine .pt ?_ | refine .pf ?_
    refine .mv ?_
    refine .mv ?_
    refine .eq ?_
    first | refine .pt ?_ | refine .pf ?_
    refine .mv ?_
    refine .mv ?_
    refine .mv ?_
    rw [show (if false = true then (0 : Int) else clWant side) = clWant side from if_neg (by decide)]
    refine .eq ?_
    rw [decide_eq_true (p := clWant side = clWant side) rfl]
    first | refine .pt ?_ | refine .pf ?_
    refine .as ?_
    refine .go ?_
    refine .r1 fun w hs => ?_
    exact ⟨rfl, hend w hs⟩
end Go.Proofs.YtpcechnalfaajaaDoor

/- Tools for the cards. -/
namespace Go.Proofs.YtpcechnalfaajaaDoor
open Go Go.Proofs Go.ChangeShapes Go.WideShapes Go.RowKit

section
variable {H : Type} {enc : TypeId × Value → H} {P : Program} {W : World} {base : Nat} {spare : Nat → Bool} {held : Bool} {fuel : Nat}
theorem arr_lits {t e : TypeId} {n : Nat} {k : IntKind} {cs : List Value} {L : List Int} {p : List MemPlace} (ht : P.underlying t = some (.array n e)) (he : P.underlying e = some (.int k)) (hce : P.cellsOf e = 1) (hct : P.cellsOf t = n)
    (h : DataW.trod enc P W base spare held fuel t cs = some (.agg (L.map fun z => .lit (.int k z)), p)) : cs = cells k L := by
  obtain ⟨xs, m, _, hx, hl, hn, hg⟩ := DataW.trod_array ht h
  simp only [Prod.mk.injEq, DataW.agg.injEq] at hx
  have hxl := congrArg List.length hx.1
  simp at hxl
  apply List.ext_getElem
  · rw [hl, hct, cells_len]; omega
  · intro i h1 h2
    have hin : i < n := by omega
    have hi := hg i hin
    have hxi : i < xs.length := by omega
    rw [List.getElem?_eq_getElem hxi] at hi
    obtain ⟨z, h3, h4, _⟩ := DataW.trod_int he hi
    have h5 : (xs.map (·.1))[i]'(by simpa using hxi) = DataW.lit (Lit.int k z) := by simp [h4]
    have hLi : i < L.length := by omega
    have h6 : (L.map fun z => (DataW.lit (Lit.int k z) : DataW H))[i]'(by simpa using hLi) = DataW.lit (Lit.int k L[i]) := by simp
    have h7 : DataW.lit (Lit.int k L[i]) = (DataW.lit (Lit.int k z) : DataW H) := by
      rw [← h5, ← h6]
      congr 1
      exact hx.1
    have hz : L[i] = z := by simpa using h7
    rw [hce, Nat.mul_one] at h3
    have h8 : cs[i] = .int k z := by
      have := congrArg (fun l => l[0]?) h3
      simp only [List.getElem?_take, List.getElem?_drop] at this
      simpa [List.getElem?_eq_getElem h1] using this
    rw [h8, ← hz]
    simp [cells]
theorem one_lit {t e : TypeId} {k : IntKind} {z : Int} {cs : List Value} {d' : List (DataW H)} {p : List MemPlace} (ht : P.underlying t = some (.slice e)) (he : P.underlying e = some (.int k)) (hce : P.cellsOf e = 1)
    (h : DataW.trod enc P W base spare held fuel t cs = some (.slice [.lit (.int k z)] d', p)) : ∃ b o cap, 1 ≤ cap ∧ cs = [.slice (some ⟨b, o, none⟩) 1 cap] ∧ W.cell? ⟨b, o, none⟩ = some (.int k z) := by
  rcases DataW.trod_slice ht h with ⟨_, hx⟩ | ⟨a, len, cap, elems, rest, n, _, hcs, hx, hb, hlc, _, hel, hg, _, _⟩
  · simp at hx
  · simp only [Prod.mk.injEq, DataW.slice.injEq] at hx
    have hl : elems.length = 1 := by have := congrArg List.length hx.1.1; simpa using this.symm
    have hlen : len = 1 := by omega
    subst hlen
    have h0 := hg 0 (by omega)
    obtain ⟨y, hy⟩ : ∃ y, elems = [y] := by
      match elems, hl with
      | [y], _ => exact ⟨y, rfl⟩
    subst hy
    simp only [List.map_cons, List.map_nil, List.cons.injEq, and_true] at hx
    rw [hce, Nat.zero_mul, show a.add 0 = a from rfl] at h0
    simp only [List.getElem?_cons_zero, Option.bind_eq_some_iff] at h0
    obtain ⟨c, hc, hd⟩ := h0
    obtain ⟨z', h1, h2, _⟩ := DataW.trod_int he hd
    have hz : z = z' := by
      have := hx.1
      rw [h2] at this
      simp at this
      exact this.1
    subst hz h1
    have hcell : W.cell? a = some (.int k z) := by
      unfold World.cells? at hc
      rw [if_pos hb] at hc
      simp [List.range_succ, show a.add 0 = a from rfl] at hc
      cases h1 : W.cell? a with
      | none => rw [h1] at hc; cases hc
      | some v => rw [h1] at hc; simp at hc; rw [hc]
    have hs := World.cell?_spot hcell
    obtain ⟨b, o, sp⟩ := a
    simp only at hs
    subst hs
    exact ⟨b, o, cap, by omega, hcs, hcell⟩
end
/-- The memory as it was when the call began. -/
def kapOf (W : World) : Kap := ⟨W.os, W.tape, W.output, fun b => W.heap[b]?⟩
theorem sat_of (W : World) : Sat (kapOf W) W [] := ⟨rfl, rfl, rfl, Sub.refl _, fun _ => none, fun _ _ h => by (cases h), fun _ => .inl rfl, trivial⟩
theorem below_of {W W' : World} {cs : List HProp} (h : Sat (kapOf W) W' cs) : Below W.heap.size W W' where
  os := h.os
  tape := h.tape
  output := h.out
  size := by
    rcases Nat.eq_zero_or_pos W.heap.size with h0 | h0
    · omega
    · have h1 := h.ro (W.heap.size - 1) W.heap[W.heap.size - 1] (by show W.heap[W.heap.size - 1]? = _; simp)
      have h2 : W'.heap[W.heap.size - 1]? = some W.heap[W.heap.size - 1] := h1
      have := (Array.getElem?_eq_some_iff.1 h2).1
      omega
  block := fun k hk => by
    have h1 := h.ro k W.heap[k] (by show W.heap[k]? = _; simp [hk])
    rw [show W'.heap[k]? = some W.heap[k] from h1]
    simp [hk]
theorem rda_cell {W : World} {b o : Nat} {v : Value} (h : W.cell? ⟨b, o, none⟩ = some v) (g : Hp) : rda b o [v] (kapOf W) g := by
  unfold World.cell? at h
  split at h
  · rename_i c T fz hc
    simp only [Option.isSome_none, Bool.false_eq_true, if_false] at h
    obtain ⟨ho, hv⟩ := Array.getElem?_eq_some_iff.1 h
    refine ⟨T, c.toList.take o, c.toList.drop (o + 1), fz, by simp; omega, ?_⟩
    show W.heap[b]? = _
    simp only at hc
    rw [hc]
    congr 2
    apply Array.toList_inj.1
    simp only [List.singleton_append]
    rw [← hv]
    simp only [← Array.getElem_toList]
    rw [← List.drop_eq_getElem_cons (by simpa using ho), List.take_append_drop]
  · cases h
theorem rda_var {P : Program} {W : World} {n : String} {gi : Nat} {cs : Array Value} {l : List Value} (hg : P.globalNamed n = some gi) (h : W.var? P n = some cs) (hl : cs.toList = l) (g : Hp) : rda gi 0 l (kapOf W) g := by
  simp only [World.var?, hg, Option.bind_some] at h
  split at h
  · rename_i c T fz hc
    cases h
    refine ⟨T, [], [], fz, rfl, ?_⟩
    show W.heap[gi]? = _
    rw [hc, ← hl]
    simp
  · cases h
end Go.Proofs.YtpcechnalfaajaaDoor

/- What the condition on the laid variables gives; a law's end. -/
namespace Go.Proofs.YtpcechnalfaajaaDoor
open Go Go.Proofs Go.ChangeShapes Go.WideShapes Go.ChangeAt Go.WideMaps Go.WideElems Go.RowKit

theorem own : ownKnob Tryd.prog.godebug = none := by kernel_rfl
theorem laidOut : laidOutB Tryd.prog = true := by kernel_rfl
def laid4 : List (String × DataW Unit) := [("pacioli/sha.rounds", Rows.laid_pacioli_sha_rounds), ("pacioli/sha.start", Rows.laid_pacioli_sha_start), ("pacioli/history.leafMark", Rows.laid_pacioli_history_leafMark), ("pacioli/history.nodeMark", Rows.laid_pacioli_history_nodeMark)]
theorem gRounds : Tryd.prog.globalNamed "pacioli/sha.rounds" = some 3 := by kernel_rfl
theorem gStart : Tryd.prog.globalNamed "pacioli/sha.start" = some 2 := by kernel_rfl
theorem gLeaf : Tryd.prog.globalNamed "pacioli/history.leafMark" = some 0 := by kernel_rfl
theorem gNode : Tryd.prog.globalNamed "pacioli/history.nodeMark" = some 1 := by kernel_rfl
theorem tRounds : (Tryd.prog.globals[3]?).map (·.type) = some 160 := by kernel_rfl
theorem tStart : (Tryd.prog.globals[2]?).map (·.type) = some 157 := by kernel_rfl
theorem tLeaf : (Tryd.prog.globals[0]?).map (·.type) = some 141 := by kernel_rfl
theorem tNode : (Tryd.prog.globals[1]?).map (·.type) = some 141 := by kernel_rfl
theorem of_laid {W : World} (h : laidMetH Tryd.prog laid4 W) : Laid (kapOf W) := by
  rw [MakeChecks.laidMetH_plain _ _ _ (by kernel_rfl)] at h
  obtain ⟨ps, ⟨g0, t0, cs0, f0, p0, q0, hg0, ht0, hv0, hd0, ⟨g1, t1, cs1, f1, p1, q1, hg1, ht1, hv1, hd1, ⟨g2, t2, cs2, f2, p2, q2, hg2, ht2, hv2, hd2, ⟨g3, t3, cs3, f3, p3, q3, hg3, ht3, hv3, hd3, _, _⟩, _⟩, _⟩, _⟩, _, _⟩ := h
  obtain rfl := Option.some.inj (gRounds.symm.trans hg0)
  obtain rfl := Option.some.inj (gStart.symm.trans hg1)
  obtain rfl := Option.some.inj (gLeaf.symm.trans hg2)
  obtain rfl := Option.some.inj (gNode.symm.trans hg3)
  obtain rfl := Option.some.inj (tRounds.symm.trans ht0)
  obtain rfl := Option.some.inj (tStart.symm.trans ht1)
  obtain rfl := Option.some.inj (tLeaf.symm.trans ht2)
  obtain rfl := Option.some.inj (tNode.symm.trans ht3)
  have e0 := arr_lits (n := 64) (e := 156) (k := .u32) (L := roundsI) (by kernel_rfl) (by kernel_rfl) (by kernel_rfl) (by kernel_rfl) hd0
  have e1 := arr_lits (n := 8) (e := 156) (k := .u32) (L := startI) (by kernel_rfl) (by kernel_rfl) (by kernel_rfl) (by kernel_rfl) hd1
  obtain ⟨b2, o2, c2, h2, hs2, hc2⟩ := one_lit (e := 5) (k := .u8) (by kernel_rfl) (by kernel_rfl) (by kernel_rfl) hd2
  obtain ⟨b3, o3, c3, h3, hs3, hc3⟩ := one_lit (e := 5) (k := .u8) (by kernel_rfl) (by kernel_rfl) (by kernel_rfl) hd3
  exact { rounds := fun g => rda_var hg0 hv0 e0 g, start := fun g => rda_var hg1 hv1 e1 g, leaf := ⟨b2, o2, c2, h2, fun g => rda_var hg2 hv2 hs2 g, fun g => rda_cell hc2 g⟩, node := ⟨b3, o3, c3, h3, fun g => rda_var hg3 hv3 hs3 g, fun g => rda_cell hc3 g⟩ }
theorem door_met (os : Os) (args : Array Value) : laidMetH Tryd.prog laid4 ((World.doorLaid Tryd.prog 4000 os).forCall (fun _ _ => 0) ⟨#[], args, []⟩).memory :=
  laidMetH_of_parts3 (fuel := 8) (laidMet_of_run' 8 (by kernel_rfl) (by kernel_rfl)) (by kernel_rfl) (by kernel_rfl)
end Go.Proofs.YtpcechnalfaajaaDoor

/- A law's end: it returned true, its arguments read as before. -/
namespace Go.Proofs.YtpcechnalfaajaaDoor
open Go Go.Proofs Go.ChangeShapes Go.WideShapes Go.ChangeAt Go.WideMaps Go.WideElems Go.RowKit

theorem trodAll_below {H : Type} {enc : TypeId × Value → H} {P : Program} (hl : laidOutB P = true) {W W' : World} (hb : Below W.heap.size W W') : ∀ {ts : List TypeId} {vs : List Value} {ds : List (DataW H)} {ps : List MemPlace}, (∀ t ∈ ts, P.readableRec t = true ∧ t < P.types.size) →
    DataW.TrodAll enc P W 0 (fun _ => true) true ts vs ds ps → (∀ x ∈ ps, x.block < W.heap.size) → DataW.TrodAll enc P W' 0 (fun b => decide (b < W.heap.size)) true ts vs ds ps
  | [], _, _, _, _, h, _ => by
    obtain ⟨rfl, rfl, rfl⟩ := trodAll_nil h
    exact rfl
  | t :: ts, _, _, _, ht, h, hlt => by
    obtain ⟨v, vs, d, ds, p, q, rfl, rfl, rfl, h1, h2⟩ := trodAll_cons h
    exact ⟨p, q, Below.trod hl (ht t (List.mem_cons_self ..)).1 (ht t (List.mem_cons_self ..)).2 h1 hb (fun x hx => hlt x (List.mem_append_left _ hx)),
      trodAll_below hl hb (fun t h => ht t (List.mem_cons_of_mem _ h)) h2 (fun x hx => hlt x (List.mem_append_right _ hx)), rfl⟩
theorem post_true {H : Type} {enc : TypeId × Value → H} {P : Program} {f : Func} {s : ChangeSpec} {apart handsOn : Bool} {W W' : World} {args : Array Value} {ds gs : List (DataW H)} {before : List MemPlace} (hl : laidOutB P = true)
    (hW : DataW.Whole enc P f.params.toList s.vars apart W args.toList ds gs before) (hv : s.vars = []) (hfn : s.fn H ds = { results := [.lit (.bool true)], args := ds }) (hb : Below W.heap.size W W')
    (hread : ∀ t ∈ f.params.toList, P.readableRec t = true ∧ t < P.types.size) {tb : TypeId} (hr : f.resultTypes = #[tb]) (htb : P.underlying tb = some .bool) : s.post enc P f apart true handsOn false W args (.bool true) W' := by
  have hW' := hW
  obtain ⟨p, q, hA, hV, hpq, hz, hn⟩ := hW
  rw [hv] at hV
  obtain ⟨rfl, rfl⟩ := trodVars_none hV
  have hlt : ∀ x ∈ p, x.block < W.heap.size := fun x hx => hW'.lt x (by rw [hpq]; simpa using hx)
  refine ⟨ds, [], before, [], p, [], hW', ?_, ?_, ?_, ?_, fun h => by cases h⟩
  · rw [List.append_nil, hfn, hr]
    exact trodAll_mk1 (shut_bool htb _)
  · rw [List.append_nil, hfn]
    exact trodAll_below hl hb hread hA hlt
  · rw [List.append_nil, hfn, hv]
    exact rfl
  · exact Below.frame hb _
/-- A number handed over. -/
theorem num_of_ok {P : Program} {w : World} {r : Reach} {base : Nat} {T u : TypeId} {v : Value} (hT : (match P.underlying T with | some (.struct _) => true | _ => false) = true) (hc : P.cellsOf T = 2) (hts : P.cellTypes P.depth T = some [u, u]) (hu : P.underlying u = some (.int .u64))
    (h : Value.okWide P w r base T v) : ∃ n : Num, v = .agg (nm n).toArray := by
  unfold Value.okWide at h
  have hT2 : ∃ fs, P.underlying T = some (.struct fs) := by
    revert hT
    cases P.underlying T with
    | none => intro h; cases h
    | some d =>
      cases d with
      | struct fs => intro _; exact ⟨fs, rfl⟩
      | _ => intro h; cases h
  obtain ⟨fs, hT2⟩ := hT2
  rw [hT2] at h
  obtain ⟨cs, rfl, hsz, ts, hts', _, hcell⟩ := h
  rw [hts] at hts'
  cases hts'
  rw [hc] at hsz
  have one : ∀ i, i < 2 → ∃ z : Int, cs[i]? = some (.int .u64 z) ∧ 0 ≤ z ∧ z < 18446744073709551616 := by
    intro i hi
    have hi2 : i < cs.size := by omega
    obtain ⟨t, ht, hk⟩ := hcell i cs[i] (by simp [hi2])
    have htu : t = u := by
      have : i % 2 = 0 ∨ i % 2 = 1 := by omega
      rcases this with h | h <;> (simp [h] at ht; exact ht.symm)
    subst htu
    unfold Cell.okWide at hk
    rw [hu] at hk
    have hk : Cell.ok P w r base t cs[i] := hk
    unfold Cell.ok at hk
    rw [hu] at hk
    have hg : cs[i]? = some cs[i] := by simp [hi2]
    rw [hg]
    generalize cs[i] = x at *
    cases x with
    | int k z =>
      obtain ⟨rfl, h1, h2⟩ := hk
      exact ⟨z, rfl, h1, by have : z ≤ 18446744073709551615 := h2; omega⟩
    | _ => exact absurd hk (by simp)
  obtain ⟨z0, h0, a0, b0⟩ := one 0 (by omega)
  obtain ⟨z1, h1, a1, b1⟩ := one 1 (by omega)
  refine ⟨BitVec.ofNat 128 (z0.toNat * 18446744073709551616 + z1.toNat), ?_⟩
  have hlt : z0.toNat * 18446744073709551616 + z1.toNat < 340282366920938463463374607431768211456 := by omega
  have hn : (BitVec.ofNat 128 (z0.toNat * 18446744073709551616 + z1.toNat)).toNat = z0.toNat * 18446744073709551616 + z1.toNat := by
    rw [BitVec.toNat_ofNat]
    exact Nat.mod_eq_of_lt (by omega)
  congr 1
  have hnm : nm (BitVec.ofNat 128 (z0.toNat * 18446744073709551616 + z1.toNat)) = [.int .u64 z0, .int .u64 z1] := by
    unfold nm
    rw [hn]
    have e0 : (z0.toNat * 18446744073709551616 + z1.toNat) / 18446744073709551616 = z0.toNat := by omega
    have e1 : (z0.toNat * 18446744073709551616 + z1.toNat) % 18446744073709551616 = z1.toNat := by omega
    rw [e0, e1, Int.toNat_of_nonneg a0, Int.toNat_of_nonneg a1]
  rw [hnm]
  apply Array.ext
  · simp [hsz]
  · intro i hi1 hi2
    have : i = 0 ∨ i = 1 := by simp at hi2; omega
    rcases this with rfl | rfl
    · have : cs[0] = .int .u64 z0 := by simpa [hi1] using h0
      simp [this]
    · have : cs[1] = .int .u64 z1 := by simpa [hi1] using h1
      simp [this]
/-- An int handed over. -/
theorem int_of_ok {P : Program} {w : World} {r : Reach} {base : Nat} {T : TypeId} {v : Value} (hT : P.underlying T = some (.int .i64)) (h : Value.okWide P w r base T v) : ∃ z : Int, v = .int .i64 z ∧ -9223372036854775808 ≤ z ∧ z ≤ 9223372036854775807 := by
  unfold Value.okWide at h
  rw [hT] at h
  have h : Cell.okWide P w r base T v := h
  unfold Cell.okWide at h
  rw [hT] at h
  have h : Cell.ok P w r base T v := h
  unfold Cell.ok at h
  rw [hT] at h
  cases v with
  | int k z =>
    obtain ⟨rfl, h1, h2⟩ := h
    exact ⟨z, rfl, h1, h2⟩
  | _ => exact absurd h (by simp)
theorem bool_of_ok {P : Program} {w : World} {r : Reach} {base : Nat} {T : TypeId} {v : Value} (hT : P.underlying T = some .bool) (h : Value.okWide P w r base T v) : ∃ b : Bool, v = .bool b := by
  unfold Value.okWide at h
  rw [hT] at h
  have h : Cell.okWide P w r base T v := h
  unfold Cell.okWide at h
  rw [hT] at h
  have h : Cell.ok P w r base T v := h
  unfold Cell.ok at h
  rw [hT] at h
  cases v with
  | bool b => exact ⟨b, rfl⟩
  | _ => exact absurd h (by simp)
end Go.Proofs.YtpcechnalfaajaaDoor

/- Arguments of plain cells, read out of the call's memory. -/
namespace Go.Proofs.YtpcechnalfaajaaDoor
open Go Go.Proofs Go.ChangeShapes Go.WideShapes Go.ChangeAt Go.WideMaps Go.WideElems Go.RowKit

/-- The kinds of a type's cells, if it has whole numbers alone. -/
def plainF (P : Program) (rec : TypeId → Option (List IntKind)) : Nat → List Field → Option (List IntKind)
  | _, [] => some []
  | o, f :: fs => match rec f.type with
    | none => none
    | some ks => if f.offset = o ∧ P.cellsOf f.type = ks.length then (plainF P rec (o + ks.length) fs).map (ks ++ ·) else none
def plainK (P : Program) : Nat → TypeId → Option (List IntKind)
  | 0, _ => none
  | d + 1, t => match P.underlying t with
    | some (.int k) => some [k]
    | some (.struct fs) => match plainF P (plainK P d) 0 fs.toList with
      | some ks => if P.cellsOf t = ks.length then some ks else none
      | none => none
    | some (.array n e) => match plainK P d e with
      | some ks => if P.cellsOf e = ks.length ∧ P.cellsOf t = n * ks.length then some (List.replicate n ks).flatten else none
      | none => none
    | _ => none
def RangeOk : List IntKind → List Int → Prop
  | [], [] => True
  | k :: ks, z :: zs => (k.min ≤ z ∧ z ≤ k.max) ∧ RangeOk ks zs
  | _, _ => False
def zipK : List IntKind → List Int → List Value
  | k :: ks, z :: zs => .int k z :: zipK ks zs
  | _, _ => []
theorem RangeOk.cons {k : IntKind} {ks : List IntKind} {zs : List Int} (h : RangeOk (k :: ks) zs) : ∃ z t, zs = z :: t ∧ (k.min ≤ z ∧ z ≤ k.max) ∧ RangeOk ks t := by
  cases zs with
  | nil => exact absurd h (by simp [RangeOk])
  | cons z t => exact ⟨z, t, rfl, h.1, h.2⟩
theorem RangeOk.nil {zs : List Int} (h : RangeOk [] zs) : zs = [] := by
  cases zs with
  | nil => rfl
  | cons z t => exact absurd h (by simp [RangeOk])
theorem RangeOk.app : ∀ {ks js : List IntKind} {zs ys : List Int}, RangeOk ks zs → RangeOk js ys → RangeOk (ks ++ js) (zs ++ ys) ∧ zipK (ks ++ js) (zs ++ ys) = zipK ks zs ++ zipK js ys := by
  intro ks
  induction ks with
  | nil => intro js zs ys h k; rw [h.nil]; exact ⟨k, rfl⟩
  | cons k ks ih =>
    intro js zs ys h k'
    obtain ⟨z, t, rfl, h1, h2⟩ := h.cons
    obtain ⟨a, b⟩ := ih h2 k'
    exact ⟨⟨h1, a⟩, by simp only [List.cons_append, zipK, b]⟩
theorem RangeOk.split : ∀ {ks js : List IntKind} {zs : List Int}, RangeOk (ks ++ js) zs → ∃ a b, zs = a ++ b ∧ RangeOk ks a ∧ RangeOk js b := by
  intro ks
  induction ks with
  | nil => intro js zs h; exact ⟨[], zs, rfl, trivial, h⟩
  | cons k ks ih =>
    intro js zs h
    obtain ⟨z, t, rfl, h1, h2⟩ := h.cons
    obtain ⟨a, b, rfl, h3, h4⟩ := ih h2
    exact ⟨z :: a, b, rfl, ⟨h1, h3⟩, h4⟩
theorem zipK_len : ∀ {ks : List IntKind} {zs : List Int}, RangeOk ks zs → (zipK ks zs).length = ks.length := by
  intro ks
  induction ks with
  | nil => intro zs h; rw [h.nil]; rfl
  | cons k ks ih =>
    intro zs h
    obtain ⟨z, t, rfl, h1, h2⟩ := h.cons
    simp only [zipK, List.length_cons, ih h2]
section
variable {H : Type} {enc : TypeId × Value → H} {P : Program} {W : World} {base : Nat} {spare : Nat → Bool} {held : Bool}
theorem plainF_rd {rec : TypeId → Option (List IntKind)} {cs : List Value} {n : Nat} (hrec : ∀ t cs x ks, rec t = some ks → DataW.trod enc P W base spare held n t cs = some x → ∃ zs, RangeOk ks zs ∧ cs = zipK ks zs) :
    ∀ (fs : List Field) (o : Nat) (ks : List IntKind), plainF P rec o fs = some ks → (∀ f ∈ fs, ∃ x, DataW.trod enc P W base spare held n f.type ((cs.drop f.offset).take (P.cellsOf f.type)) = some x) → ∃ zs, RangeOk ks zs ∧ (cs.drop o).take ks.length = zipK ks zs := by
  intro fs
  induction fs with
  | nil =>
    intro o ks h _
    cases h
    exact ⟨[], trivial, by simp [zipK]⟩
  | cons f fs ih =>
    intro o ks h hx
    simp only [plainF] at h
    cases hr : rec f.type with
    | none => rw [hr] at h; cases h
    | some js =>
      rw [hr] at h
      simp only at h
      split at h
      · rename_i hc
        cases hp : plainF P rec (o + js.length) fs with
        | none => rw [hp] at h; cases h
        | some ls =>
          rw [hp] at h
          cases h
          obtain ⟨x, hx1⟩ := hx f (by simp)
          obtain ⟨zs, h1, h2⟩ := hrec _ _ _ _ hr hx1
          obtain ⟨ys, h3, h4⟩ := ih _ _ hp (fun g hg => hx g (by simp [hg]))
          rw [hc.1, hc.2] at h2
          obtain ⟨a, b⟩ := h1.app h3
          refine ⟨zs ++ ys, a, ?_⟩
          rw [b, ← h2, ← h4, List.length_append, List.take_add, List.drop_drop]
      · cases h
theorem trod_plain : ∀ (d fuel : Nat) (t : TypeId) (cs : List Value) (x : DataW H × List MemPlace) (ks : List IntKind), plainK P d t = some ks → DataW.trod enc P W base spare held fuel t cs = some x → ∃ zs, RangeOk ks zs ∧ cs = zipK ks zs := by
  intro d
  induction d with
  | zero => intro fuel t cs x ks h; cases h
  | succ d ih =>
    intro fuel t cs x ks h hx
    simp only [plainK] at h
    split at h
    · rename_i k hu
      cases h
      obtain ⟨z, rfl, _, hw⟩ := DataW.trod_int hu hx
      have : k.min ≤ z ∧ z ≤ k.max := by simpa [Lit.wf] using hw
      exact ⟨[z], ⟨this, trivial⟩, rfl⟩
    · rename_i fs hu
      cases hp : plainF P (plainK P d) 0 fs.toList with
      | none => rw [hp] at h; cases h
      | some js =>
        rw [hp] at h
        simp only at h
        split at h
        · rename_i hc
          cases h
          obtain ⟨xs, n, rfl, _, hl, hs, hg⟩ := DataW.trod_struct hu hx
          obtain ⟨zs, h1, h2⟩ := plainF_rd (cs := cs) (n := n) (fun t cs x ks a b => ih n t cs x ks a b) _ _ _ hp (fun f hf => by
            obtain ⟨i, hi, rfl⟩ := List.getElem_of_mem hf
            have hi' : i < fs.size := by simpa using hi
            refine ⟨xs[i]'(by omega), ?_⟩
            rw [hg i fs.toList[i] (by simp [hi'])]
            simp [hs, hi'])
          refine ⟨zs, h1, ?_⟩
          rw [← h2, List.drop_zero, ← hc, ← hl, List.take_length]
        · cases h
    · rename_i n e hu
      cases hp : plainK P d e with
      | none => rw [hp] at h; cases h
      | some js =>
        rw [hp] at h
        simp only at h
        split at h
        · rename_i hc
          cases h
          obtain ⟨xs, m, rfl, _, hl, hs, hg⟩ := DataW.trod_array hu hx
          have key : ∀ (k o : Nat), o + k ≤ n → ∃ zs, RangeOk (List.replicate k js).flatten zs ∧ (cs.drop (o * js.length)).take (k * js.length) = zipK (List.replicate k js).flatten zs := by
            intro k
            induction k with
            | zero => intro o _; exact ⟨[], trivial, by simp [zipK]⟩
            | succ k ihk =>
              intro o ho
              have h0 := hg o (by omega)
              rw [List.getElem?_eq_getElem (by omega)] at h0
              obtain ⟨zs, h1, h2⟩ := ih m e _ _ js hp h0
              obtain ⟨ys, h3, h4⟩ := ihk (o + 1) (by omega)
              obtain ⟨a, b⟩ := h1.app h3
              refine ⟨zs ++ ys, a, ?_⟩
              rw [List.replicate_succ, List.flatten_cons, b, ← h2, ← h4, hc.1, show (k + 1) * js.length = js.length + k * js.length by rw [Nat.add_mul]; omega, List.take_add, List.drop_drop, show (o + 1) * js.length = o * js.length + js.length by rw [Nat.add_mul]; omega]
          obtain ⟨zs, h1, h2⟩ := key n 0 (by omega)
          refine ⟨zs, h1, ?_⟩
          rw [← h2, Nat.zero_mul, List.drop_zero, ← hc.2, ← hl, List.take_length]
        · cases h
    · cases h
end
theorem u64_num {a b : Int} (ha : IntKind.u64.min ≤ a ∧ a ≤ IntKind.u64.max) (hb : IntKind.u64.min ≤ b ∧ b ≤ IntKind.u64.max) : ∃ n : Num, Value.int .u64 ((n.toNat / 18446744073709551616 : Nat) : Int) = .int .u64 a ∧ Value.int .u64 ((n.toNat % 18446744073709551616 : Nat) : Int) = .int .u64 b := by
  have a0 : 0 ≤ a := ha.1
  have b0 : 0 ≤ b := hb.1
  have a1 : a ≤ 18446744073709551615 := ha.2
  have b1 : b ≤ 18446744073709551615 := hb.2
  refine ⟨BitVec.ofNat 128 (a.toNat * 18446744073709551616 + b.toNat), ?_⟩
  have hn : (BitVec.ofNat 128 (a.toNat * 18446744073709551616 + b.toNat)).toNat = a.toNat * 18446744073709551616 + b.toNat := by
    rw [BitVec.toNat_ofNat]
    exact Nat.mod_eq_of_lt (by omega)
  rw [hn]
  constructor <;> (congr 1; omega)
theorem u8_bytes : ∀ (n : Nat) {zs : List Int}, RangeOk (List.replicate n .u8) zs → ∃ l : List UInt8, l.length = n ∧ l.map (fun c => Value.int .u8 (c.toNat : Int)) = zipK (List.replicate n .u8) zs := by
  intro n
  induction n with
  | zero => intro zs h; exact ⟨[], rfl, rfl⟩
  | succ n ih =>
    intro zs h
    obtain ⟨z, t, rfl, h1, h2⟩ := RangeOk.cons h
    obtain ⟨l, hl, he⟩ := ih h2
    have z0 : 0 ≤ z := h1.1
    have z1 : z ≤ 255 := h1.2
    refine ⟨UInt8.ofNat z.toNat :: l, by simp [hl], ?_⟩
    simp only [List.map_cons, List.replicate_succ, zipK, he]
    congr 2
    simp
    omega
def numK : List IntKind := [.u64, .u64]
def transferK : List IntKind := [.u64, .u64, .u64, .u64, .u64, .u64, .u64, .u64, .u64, .u64, .i64, .i64, .i64, .i64, .i64, .i64]
def accountK : List IntKind := [.u64, .u64, .i64, .i64, .u64, .u64, .u64, .u64, .u64, .u64, .u64, .u64, .i64, .i64, .u8, .u8, .u8, .u8, .u8, .u8, .u8, .u8, .u8, .u8, .u8, .u8, .u8, .u8, .u8, .u8, .u8, .u8, .u8, .u8, .u8, .u8, .u8, .u8, .u8, .u8, .u8, .u8, .u8, .u8, .u8, .u8]
theorem num_of {zs : List Int} (h : RangeOk numK zs) : ∃ n : Num, zipK numK zs = nm n := by
  obtain ⟨a, _, rfl, ha, h⟩ := RangeOk.cons h
  obtain ⟨b, _, rfl, hb, h⟩ := RangeOk.cons h
  obtain ⟨n, e1, e2⟩ := u64_num ha hb
  exact ⟨n, by rw [h.nil]; simp only [zipK, numK, nm, e1, e2]⟩
theorem in64 {z : Int} (h : IntKind.i64.min ≤ z ∧ z ≤ IntKind.i64.max) : -9223372036854775808 ≤ z ∧ z ≤ 9223372036854775807 := h
structure TrOk (t : Transfer) : Prop where
  timeout : -9223372036854775808 ≤ t.timeout ∧ t.timeout ≤ 9223372036854775807
  ledger : -9223372036854775808 ≤ t.ledger ∧ t.ledger ≤ 9223372036854775807
  flags : -9223372036854775808 ≤ t.flags ∧ t.flags ≤ 9223372036854775807
  time : -9223372036854775808 ≤ t.time ∧ t.time ≤ 9223372036854775807
  tick : -9223372036854775808 ≤ t.tick ∧ t.tick ≤ 9223372036854775807
  state : -9223372036854775808 ≤ t.state ∧ t.state ≤ 9223372036854775807
structure AcOk (a : Account) : Prop where
  ledger : -9223372036854775808 ≤ a.ledger ∧ a.ledger ≤ 9223372036854775807
  flags : -9223372036854775808 ≤ a.flags ∧ a.flags ≤ 9223372036854775807
  time : -9223372036854775808 ≤ a.time ∧ a.time ≤ 9223372036854775807
  rows : -9223372036854775808 ≤ a.rows ∧ a.rows ≤ 9223372036854775807
theorem transfer_of {zs : List Int} (h : RangeOk transferK zs) : ∃ t : Transfer, TrOk t ∧ zipK transferK zs = encT t := by
  obtain ⟨a0, _, rfl, h0, h⟩ := RangeOk.cons h
  obtain ⟨a1, _, rfl, h1, h⟩ := RangeOk.cons h
  obtain ⟨a2, _, rfl, h2, h⟩ := RangeOk.cons h
  obtain ⟨a3, _, rfl, h3, h⟩ := RangeOk.cons h
  obtain ⟨a4, _, rfl, h4, h⟩ := RangeOk.cons h
  obtain ⟨a5, _, rfl, h5, h⟩ := RangeOk.cons h
  obtain ⟨a6, _, rfl, h6, h⟩ := RangeOk.cons h
  obtain ⟨a7, _, rfl, h7, h⟩ := RangeOk.cons h
  obtain ⟨a8, _, rfl, h8, h⟩ := RangeOk.cons h
  obtain ⟨a9, _, rfl, h9, h⟩ := RangeOk.cons h
  obtain ⟨b0, _, rfl, g0, h⟩ := RangeOk.cons h
  obtain ⟨b1, _, rfl, g1, h⟩ := RangeOk.cons h
  obtain ⟨b2, _, rfl, g2, h⟩ := RangeOk.cons h
  obtain ⟨b3, _, rfl, g3, h⟩ := RangeOk.cons h
  obtain ⟨b4, _, rfl, g4, h⟩ := RangeOk.cons h
  obtain ⟨b5, _, rfl, g5, h⟩ := RangeOk.cons h
  obtain ⟨n0, e0, f0⟩ := u64_num h0 h1
  obtain ⟨n1, e1, f1⟩ := u64_num h2 h3
  obtain ⟨n2, e2, f2⟩ := u64_num h4 h5
  obtain ⟨n3, e3, f3⟩ := u64_num h6 h7
  obtain ⟨n4, e4, f4⟩ := u64_num h8 h9
  refine ⟨⟨n0, n1, n2, n3, n4, b0, b1, b2, b3, b4, b5⟩, ⟨g0, g1, g2, g3, g4, g5⟩, ?_⟩
  rw [h.nil]
  simp only [zipK, transferK, encT, e0, f0, e1, f1, e2, f2, e3, f3, e4, f4]
theorem account_of {zs : List Int} (h : RangeOk accountK zs) : ∃ a : Account, AcOk a ∧ zipK accountK zs = encA a := by
  obtain ⟨a0, _, rfl, h0, h⟩ := RangeOk.cons h
  obtain ⟨a1, _, rfl, h1, h⟩ := RangeOk.cons h
  obtain ⟨b0, _, rfl, g0, h⟩ := RangeOk.cons h
  obtain ⟨b1, _, rfl, g1, h⟩ := RangeOk.cons h
  obtain ⟨a2, _, rfl, h2, h⟩ := RangeOk.cons h
  obtain ⟨a3, _, rfl, h3, h⟩ := RangeOk.cons h
  obtain ⟨a4, _, rfl, h4, h⟩ := RangeOk.cons h
  obtain ⟨a5, _, rfl, h5, h⟩ := RangeOk.cons h
  obtain ⟨a6, _, rfl, h6, h⟩ := RangeOk.cons h
  obtain ⟨a7, _, rfl, h7, h⟩ := RangeOk.cons h
  obtain ⟨a8, _, rfl, h8, h⟩ := RangeOk.cons h
  obtain ⟨a9, _, rfl, h9, h⟩ := RangeOk.cons h
  obtain ⟨b2, _, rfl, g2, h⟩ := RangeOk.cons h
  obtain ⟨b3, t, rfl, g3, h⟩ := RangeOk.cons h
  obtain ⟨n0, e0, f0⟩ := u64_num h0 h1
  obtain ⟨n1, e1, f1⟩ := u64_num h2 h3
  obtain ⟨n2, e2, f2⟩ := u64_num h4 h5
  obtain ⟨n3, e3, f3⟩ := u64_num h6 h7
  obtain ⟨n4, e4, f4⟩ := u64_num h8 h9
  have hr : RangeOk (List.replicate 32 .u8) t := h
  obtain ⟨l, hl, he⟩ := u8_bytes 32 hr
  refine ⟨⟨n0, b0, b1, n1, n2, n3, n4, b2, b3, ⟨l, hl⟩⟩, ⟨g0, g1, g2, g3⟩, ?_⟩
  have hz : zipK accountK (a0 :: a1 :: b0 :: b1 :: a2 :: a3 :: a4 :: a5 :: a6 :: a7 :: a8 :: a9 :: b2 :: b3 :: t) = .int .u64 a0 :: .int .u64 a1 :: .int .i64 b0 :: .int .i64 b1 :: .int .u64 a2 :: .int .u64 a3 :: .int .u64 a4 :: .int .u64 a5 :: .int .u64 a6 :: .int .u64 a7 :: .int .u64 a8 :: .int .u64 a9 :: .int .i64 b2 :: .int .i64 b3 :: zipK (List.replicate 32 .u8) t := rfl
  rw [hz, ← he]
  simp only [encA, hcells, e0, f0, e1, f1, e2, f2, e3, f3, e4, f4]
/-- An argument that is a struct or an array of whole numbers. -/
theorem agg_of {H : Type} {enc : TypeId × Value → H} {P : Program} {W : World} {base : Nat} {spare : Nat → Bool} {held : Bool} {w : World} {r : Reach} {b0 : Nat} {T : TypeId} {v : Value} {d : DataW H} {p : List MemPlace} {ks : List IntKind} (n : Nat)
    (hT : (match P.underlying T with | some (.struct _) => true | some (.array _ _) => true | _ => false) = true) (hk : plainK P n T = some ks) (hv : Value.okWide P w r b0 T v) (h : DataW.Trod enc P W base spare held T v d p) : ∃ zs, RangeOk ks zs ∧ v = .agg (zipK ks zs).toArray := by
  have hc : ∃ cs, v = .agg cs := by
    unfold Value.okWide at hv
    split at hv
    · obtain ⟨cs, rfl, _⟩ := hv; exact ⟨cs, rfl⟩
    · obtain ⟨cs, rfl, _⟩ := hv; exact ⟨cs, rfl⟩
    · rename_i h1 h2
      split at hT
      · rename_i fs hu; exact absurd hu (h1 fs)
      · rename_i m e hu; exact absurd hu (h2 m e)
      · cases hT
  obtain ⟨cs, rfl⟩ := hc
  obtain ⟨fuel, hf⟩ := h
  obtain ⟨zs, h1, h2⟩ := trod_plain n fuel T _ _ ks hk hf
  refine ⟨zs, h1, ?_⟩
  have : cs.toList = zipK ks zs := h2
  rw [← this]
end Go.Proofs.YtpcechnalfaajaaDoor

/- Steps: an element of an array that is no variable. -/
namespace Go.Proofs.YtpcechnalfaajaaDoor
open Go

section
variable {P : Program} {l : List Oper} {ops : Array Oper} {Q : Exit → Act → World → Prop} {L : List Nat} {W : List (Nat × Nat × List Value)} {n : Nd} {κ : Kap} {fuel : Nat} {done : List Nat} {fr : List (Nat × Value)} {cs : List HProp} {rest : List Oper}
variable {d : Nat} {dst : Option Nat} {op : Op} {ty : TypeId} {pos : String} {af : Array Edge} {g : Option (Nat × Bool)}
theorem OpQ.index {T E : TypeId} {m len : Nat} {agg : Bool} {x i : Operand} {r : List Value} {v : Value} {k : IntKind} {z : Int} (hx : ev fr x = some (.agg r.toArray)) (hi : ev fr i = some (.int k z))
    [hs : Ar P T len E m] [ht : Ty P E agg m] (hz : 0 ≤ z ∧ z < len) (hv : getV agg r (z.toNat * m) m = some v) : OpQ P n ⟨dst, .index T x i, ty, pos, af, g⟩ fr v := by
  intro a w ha
  simp only [execOp, ha.eval hx, ha.eval hi, Instr.index, asIntOf, Sem.run_bind, Sem.run_pure, Result.andThen_ok, hs.und, if_pos hz, hs.size, part, ht.agg]
  cases agg with
  | true =>
    simp only [getV, cond_true] at hv
    cases hg : getN r (z.toNat * m) m with
    | none => rw [hg] at hv; cases hv
    | some q =>
      rw [hg] at hv; simp at hv; subst hv
      obtain ⟨e, _⟩ := getN_eq r _ m q hg
      simp only [if_true]
      have : r.toArray.extract (z.toNat * m) (z.toNat * m + m) = q.toArray := by
        apply Array.ext'; simp [e, List.take_drop, Nat.add_sub_cancel_left]
      simp only [Sem.run_bind, hs.size, Result.andThen_ok, Sem.run_pure, this]
  | false =>
    simp only [getV, cond_false, get1_eq] at hv
    simp [hv]
theorem St.inx {T E : TypeId} {m len : Nat} {agg : Bool} {x i : Operand} {r : List Value} {v : Value} {k : IntKind} {z : Int} (hv : getV agg r (z.toNat * m) m = some v) (kk : St P ops Q n κ rest ((d, v) :: fr) cs)
    (h : ev fr x = some (.agg r.toArray) ∧ ev fr i = some (.int k z) ∧ Ar P T len E m ∧ Ty P E agg m := by refine ⟨rfl, rfl, ?_, ?_⟩ <;> infer_instance) (hz : 0 ≤ z ∧ z < len := by omega) (hd : Nat.blt d n.n = true := by rfl) (hw : wantedF ops fr g true = true := by rfl) :
    St P ops Q n κ (⟨some d, .index T x i, ty, pos, af, g⟩ :: rest) fr cs := .q (have := h.2.2.1; have := h.2.2.2; .index h.1 h.2.1 hz hv) kk hd hw
end
end Go.Proofs.YtpcechnalfaajaaDoor
