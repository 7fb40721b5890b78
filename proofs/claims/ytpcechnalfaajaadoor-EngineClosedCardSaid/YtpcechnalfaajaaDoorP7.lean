/- Part 7 of the proof: U26a, U26, V20, U27, U28, U29, U30, V21. -/
import Derived.Test.YtpcechnalfaajaaDoorP6
/- engine: second, its end. -/
namespace Go.Proofs.YtpcechnalfaajaaDoor
open Go Go.Proofs

def mis (t p : Transfer) : Bool := ((!decide (t.debit = 0) && !decide (t.debit = p.debit)) || (!decide (t.credit = 0) && !decide (t.credit = p.credit))) || (decide (t.ledger ≠ 0) && decide (t.ledger ≠ p.ledger))
theorem mis_iff (t p : Transfer) : mis t p = true ↔ (t.debit ≠ 0 ∧ t.debit ≠ p.debit) ∨ (t.credit ≠ 0 ∧ t.credit ≠ p.credit) ∨ (t.ledger ≠ 0 ∧ t.ledger ≠ p.ledger) := by
  unfold mis
  simp [or_assoc]
def secN (t : Transfer) (held : Num) : Num := if t.amount = 0 then held else t.amount
def secE (t p : Transfer) (held : Num) : Int :=
  if band p.flags 2 = 0 then 21 else if p.state = 2 ∨ p.state = 3 then 22 else if p.state = 4 then 23 else if mis t p = true then 25
  else if held.toNat < (secN t held).toNat ∨ ((secN t held).toNat < held.toNat ∧ band t.flags 8 ≠ 0) then 24 else 0
theorem secE_eq (t p : Transfer) (held : Num) : Eng.secondBad t p held = secE t p held := by
  unfold Eng.secondBad secE secN
  simp only [mis_iff]
def secF (e : Eng) (t p : Transfer) (k d c : Nat) (held n : Num) : Eng :=
  let e := (e.release p held d c (decide (band t.flags 8 ≠ 0))).setState k 3
  let e := if band t.flags 4 ≠ 0 then (e.setState k 2).post n d c else e
  e.add { t with state := 0 } n d c
theorem second_none {e : Eng} {t : Transfer} (h : posN t.pid e.tids = none) : e.second t = (e, 20) := by unfold Eng.second; rw [h]
theorem second_some {e : Eng} {t p : Transfer} {k : Nat} {held : Num} (h : posN t.pid e.tids = some k) (hp : e.trs.getD k zT = p) (hh : e.amount p.id = held) :
    e.second t = if secE t p held ≠ 0 then (e, secE t p held) else (secF e t p k ((posN p.debit e.ids).getD 0) ((posN p.credit e.ids).getD 0) held (secN t held), 0) := by
  unfold Eng.second
  rw [h]
  simp only
  rw [hp, hh, secE_eq]
  rfl
set_option maxHeartbeats 2000000 in
theorem second_rest (b : Nat) (e : Eng) (i : EngI) (hi : i.lb.length = e.rws.length) (t p : Transfer) (k d c bt b3 b8 b9 : Nat) (held n : Num) (hbt : i.pt = some ⟨bt, 0, none⟩) (hk : k < e.trs.length) (hpe : e.trs[k] = p) (hd : d < e.acc.length) (hc : c < e.acc.length)
    (hnt : e.tids.Nodup) (hr : RowOk e) (hlt : ∀ l ∈ e.rws, l.length + 2 < 90000) (htl : e.trs.length < 600)
    (htm : -1000000000000 ≤ e.time ∧ e.time ≤ 1000000000000) (hev : -1000000000000 ≤ bclr t.flags 1 ∧ bclr t.flags 1 ≤ 1000000000000) (κ : Kap) (hκ : Laid κ) (cs : List HProp) :
    Co Tryd.prog (bodyPost Tryd.prog Tryd.f64 fun e_1 w' => ∃ i' : EngI, i'.lb.length = e.rws.length ∧ e_1 = .returned (.int .i64 0) ∧ Sat κ w' (engO b (secF e t p k d c held n) i' cs)) ⟨(Tryd.f64).ntmps, []⟩ κ (tailC 11 ((Tryd.f64).body.getD .skip))
      [(0, .pointer (some ⟨b, 0, none⟩)), (3, .pointer (some ⟨b3, 0, none⟩)), (7, .pointer (some ⟨bt, 0 + ((k : Nat) : Int).toNat * 16, none⟩)), (8, .pointer (some ⟨b8, 0, none⟩)), (9, .pointer (some ⟨b9, 0, none⟩)), (11, .int .i64 d), (13, .int .i64 c)] (pts b9 (24, nm n) :: pts b8 (24, nm held) :: pts b3 (43, encT t) :: engO b e i cs) := by
  refine .slp (p := i.pa) (cap := i.ca) (sz := 46) (n0 := e.acc.length) (by omega) (fun ba hba _ => ?_)
  obtain ⟨pa, ca, pt, ct, pr, cr, bA, bI, lb⟩ := i
  simp only at hbt hba hi
  subst hbt hba
  refine .seq ?_
  refine .reg ?_
  refine .mv ?_
  refine .mv ?_
  refine .ldw ?_
  refine .mv ?_
  refine .mv ?_
  refine .fa ?_
  refine .ld (v := .int .i64 t.flags) ?_
  refine .an ?_
  refine .ne ?_
  have hrel := release_tr b e ⟨some ⟨ba, 0, none⟩, ca, some ⟨bt, 0, none⟩, ct, pr, cr, bA, bI, lb⟩ hi bt k rfl hk held d c hd hc (decide (band t.flags 8 ≠ 0))
  rw [hpe] at hrel
  refine .cl (Tr.ef3 (hrel κ _)) ?_
  obtain ⟨A1, e1, l1, m1⟩ := Eng.release_form e p held d c (decide (band t.flags 8 ≠ 0))
  have hpk : e.trs.getD k zT = p := by rw [getD_at hk, hpe]
  have hF : secF e t p k d c held n = (if band t.flags 4 ≠ 0 then ((⟨A1, e.trs.set k { p with state := 3 }, e.rws, e.time, e.now⟩ : Eng).setState k 2).post n d c else ⟨A1, e.trs.set k { p with state := 3 }, e.rws, e.time, e.now⟩).add { t with state := 0 } n d c := by
    unfold secF
    rw [e1, ← hpk]; rfl
  have hp3 : putN (e.trs.flatMap encT) (0 + ((k : Nat) : Int).toNat * 16 + 15) [.int .i64 3] = some ((e.trs.set k { p with state := 3 }).flatMap encT) := by
    rw [Nat.zero_add]
    exact flat_put (j := k) encT_len hk (by rw [hpe]; rfl)
  have hS : ∀ (E : Eng) (h : k < E.trs.length), E.setState k 2 = { E with trs := E.trs.set k { E.trs[k] with state := 2 } } := fun E h => by unfold Eng.setState; rw [getD_at h]
  have hl3 : (e.trs.set k { p with state := 3 }).length = e.trs.length := by simp
  have hm3 : (e.trs.set k { p with state := 3 }).map (·.id) = e.trs.map (·.id) := tids_set (by rw [hpk])
  have hg3 : ∀ h, (e.trs.set k { p with state := 3 })[k]'h = { p with state := 3 } := fun h => by simp
  rw [e1]
  refine .sat (cs' := pts b9 (24, nm n) :: pts b8 (24, nm held) :: pts b3 (43, encT t) :: pts b (92, [.slice (some ⟨ba, 0, none⟩) A1.length ca, .slice (some ⟨bt, 0, none⟩) e.trs.length ct, .slice pr lb.length cr, ptrV bA, ptrV bI, .int .i64 e.time, .int .i64 e.now]) ::
    sl 46 (.slice (some ⟨ba, 0, none⟩) A1.length ca) (37, A1.flatMap encA) :: sl 16 (.slice (some ⟨bt, 0, none⟩) e.trs.length ct) (43, e.trs.flatMap encT) :: sl 1 (.slice pr lb.length cr) (72, lb.map ptrV) ::
    ixB bA (idxOf (A1.map (·.id))) :: ixB bI (idxOf e.tids) :: (rowsP e.rws lb ++ cs)) (fun w hs => hs) ?_
  refine .go ?_
  refine .seq ?_
  refine .reg ?_
  refine .mv ?_
  refine .nc ?_
  refine .fa ?_
  refine .sx hp3 ?_
  refine .go ?_
  generalize e.trs.set k { p with state := 3 } = T1 at *
  have hk1 : k < T1.length := by omega
  have hgk := hg3 hk1
  refine .jn (ι := Eng) (fun _ => [(0, .pointer (some ⟨b, 0, none⟩)), (3, .pointer (some ⟨b3, 0, none⟩)), (9, .pointer (some ⟨b9, 0, none⟩)), (11, .int .i64 d), (13, .int .i64 c)]) (fun E => pts b9 (24, nm n) :: pts b3 (43, encT t) :: engO b E ⟨some ⟨ba, 0, none⟩, ca, some ⟨bt, 0, none⟩, ct, pr, cr, bA, bI, lb⟩ cs) (fun E => E = (if band t.flags 4 ≠ 0 then ((⟨A1, T1, e.rws, e.time, e.now⟩ : Eng).setState k 2).post n d c else ⟨A1, T1, e.rws, e.time, e.now⟩) ∧ E.acc.length = e.acc.length ∧ E.rws = e.rws ∧ E.tids = e.tids ∧ E.trs.length = e.trs.length ∧ E.time = e.time) ?_ fun E hE => ?_
  · refine .seq ?_
    refine .reg ?_
    refine .fa ?_
    refine .ld (v := .int .i64 t.flags) ?_
    refine .an ?_
    refine .ne ?_
    refine .go ?_
    refine .cond rfl (fun h4 => ?_) (fun h4 => ?_)
    · have h4 := of_decide_eq_true h4
      have hp2 : putN (T1.flatMap encT) (0 + ((k : Nat) : Int).toNat * 16 + 15) [.int .i64 2] = some ((T1.set k { p with state := 2 }).flatMap encT) := by
        rw [Nat.zero_add]
        exact flat_put (j := k) encT_len hk1 (by rw [hgk]; rfl)
      have hl2 : (T1.set k { p with state := 2 }).length = T1.length := by simp
      have hm2 : (T1.set k { p with state := 2 }).map (·.id) = T1.map (·.id) := tids_set (by rw [getD_at hk1, hgk])
      have hE2 : (⟨A1, T1, e.rws, e.time, e.now⟩ : Eng).setState k 2 = ⟨A1, T1.set k { p with state := 2 }, e.rws, e.time, e.now⟩ := by rw [hS _ hk1]; simp only; rw [hgk]
      refine .seq ?_
      refine .reg ?_
      refine .mv ?_
      refine .nc ?_
      refine .fa ?_
      refine .sx hp2 ?_
      generalize T1.set k { p with state := 2 } = T2 at *
      refine .go ?_
      refine .seq ?_
      refine .regD [(b, 0, [.slice (some ⟨ba, 0, none⟩) A1.length ca, .slice (some ⟨bt, 0, none⟩) e.trs.length ct, .slice pr lb.length cr, ptrV bA, ptrV bI, .int .i64 e.time, .int .i64 e.now])] [] ?_
      refine .mv 0 ?_
      refine .nc 1 ?_
      refine .fa 2 ?_
      refine .fa 3 ?_
      refine .ld 4 ?_
      refine .mv 5 ?_
      refine .ix 6 ?_
      refine .mv 7 ?_
      refine .nc 8 ?_
      refine .fa 9 ?_
      refine .fa 10 ?_
      refine .ld 11 ?_
      refine .mv 12 ?_
      refine .ix 13 ?_
      refine .as 14 ?_
      refine .as 15 ?_
      refine .go ?_
      have hkd : d < A1.length := by omega
      have hxA : ∀ (cs : List HProp) [RdAt ba cs 0 (A1.flatMap encA)], RdAt ba cs (0 + ((d : Nat) : Int).toNat * 46) (encA A1[d]) := fun cs h => h.sub encA_len d hkd
      have hsx : putN (A1.flatMap encA) (0 + ((d : Nat) : Int).toNat * 46 + 6) (nm (addN [A1[d].dq, n])) = some ((A1.set d { A1[d] with dq := addN [A1[d].dq, n] }).flatMap encA) := by
        rw [Nat.zero_add]
        exact flat_put (j := d) encA_len hkd rfl
      have hlx : (A1.set d { A1[d] with dq := addN [A1[d].dq, n] }).length = A1.length := by simp
      have hmx : (A1.set d { A1[d] with dq := addN [A1[d].dq, n] }).map (·.id) = A1.map (·.id) := ids_set (e := { e with acc := A1 }) (by rw [getD_at hkd])
      have hqx : (A1.set d { A1.getD d zA with dq := addN [(A1.getD d zA).dq, n] }) = (A1.set d { A1[d] with dq := addN [A1[d].dq, n] }) := by rw [getD_at hkd]
      generalize A1.set d { A1[d] with dq := addN [A1[d].dq, n] } = A2 at *
      generalize A1[d] = x at *
      refine .seq ?_
      refine .regD [(b9, 0, nm n), (ba, 0 + ((d : Nat) : Int).toNat * 46, encA x)] [13] ?_
      refine .mv 0 ?_
      refine .mv 1 ?_
      refine .nc 2 ?_
      refine .fa 3 ?_
      refine .lx 4 (show getV true (encA x) 6 2 = some (.agg (nm x.dq).toArray) from rfl) ?_
      refine .ldw 5 ?_
      refine .bs 6 fun b200 => ?_
      refine .cl 7 (add2_tr x.dq n b200 κ _) ?_
      refine .mv 8 ?_
      refine .ex 9 ?_
      refine .ex 10 ?_
      refine .nc 11 ?_
      refine .fa 12 ?_
      refine .sx 13 (v := .agg (nm (addN [x.dq, n])).toArray) hsx ?_
      clear hxA
      refine .go ?_
      have hkc : c < A2.length := by omega
      have hyA : ∀ (cs : List HProp) [RdAt ba cs 0 (A2.flatMap encA)], RdAt ba cs (0 + ((c : Nat) : Int).toNat * 46) (encA A2[c]) := fun cs h => h.sub encA_len c hkc
      have hsy : putN (A2.flatMap encA) (0 + ((c : Nat) : Int).toNat * 46 + 10) (nm (addN [A2[c].cq, n])) = some ((A2.set c { A2[c] with cq := addN [A2[c].cq, n] }).flatMap encA) := by
        rw [Nat.zero_add]
        exact flat_put (j := c) encA_len hkc rfl
      have hly : (A2.set c { A2[c] with cq := addN [A2[c].cq, n] }).length = A2.length := by simp
      have hmy : (A2.set c { A2[c] with cq := addN [A2[c].cq, n] }).map (·.id) = A2.map (·.id) := ids_set (e := { e with acc := A2 }) (by rw [getD_at hkc])
      have hqy : (A2.set c { A2.getD c zA with cq := addN [(A2.getD c zA).cq, n] }) = (A2.set c { A2[c] with cq := addN [A2[c].cq, n] }) := by rw [getD_at hkc]
      generalize A2.set c { A2[c] with cq := addN [A2[c].cq, n] } = A3 at *
      generalize A2[c] = y at *
      refine .regD [(b9, 0, nm n), (ba, 0 + ((c : Nat) : Int).toNat * 46, encA y)] [13] ?_
      refine .mv 0 ?_
      refine .mv 1 ?_
      refine .nc 2 ?_
      refine .fa 3 ?_
      refine .lx 4 (show getV true (encA y) 10 2 = some (.agg (nm y.cq).toArray) from rfl) ?_
      refine .ldw 5 ?_
      refine .bs 6 fun b213 => ?_
      refine .cl 7 (add2_tr y.cq n b213 κ _) ?_
      refine .mv 8 ?_
      refine .ex 9 ?_
      refine .ex 10 ?_
      refine .nc 11 ?_
      refine .fa 12 ?_
      refine .sx 13 (v := .agg (nm (addN [y.cq, n])).toArray) hsy ?_
      clear hyA
      refine .nil fun aa w hf hs => ⟨⟨A3, T2, e.rws, e.time, e.now⟩, ?_, hf.to (by repeat (first | exact trivial | refine ⟨rfl, ?_⟩)), ?_⟩
      · exact ⟨by rw [if_pos h4, hE2, ← hqy, ← hqx]; rfl, by show A3.length = _; omega, rfl, by show T2.map (·.id) = _; rw [hm2, hm3]; rfl, by show T2.length = _; omega, rfl⟩
      · have hs := hs.pm 4 [2]
        show Sat κ w (pts b9 (24, nm n) :: pts b3 (43, encT t) :: pts b (92, [.slice (some ⟨ba, 0, none⟩) A3.length ca, .slice (some ⟨bt, 0, none⟩) T2.length ct, .slice pr lb.length cr, ptrV bA, ptrV bI, .int .i64 e.time, .int .i64 e.now]) ::
    sl 46 (.slice (some ⟨ba, 0, none⟩) A3.length ca) (37, A3.flatMap encA) :: sl 16 (.slice (some ⟨bt, 0, none⟩) T2.length ct) (43, T2.flatMap encT) :: sl 1 (.slice pr lb.length cr) (72, lb.map ptrV) ::
    ixB bA (idxOf (A3.map (·.id))) :: ixB bI (idxOf (T2.map (·.id))) :: (rowsP e.rws lb ++ cs))
        rw [show A3.length = A1.length by omega, show T2.length = e.trs.length by omega, hmy, hmx, hm2, hm3]
        exact hs
    · have h4 := of_decide_eq_false h4
      refine .skip fun aa w hf hs => ⟨⟨A1, T1, e.rws, e.time, e.now⟩, ?_, hf.to (by repeat (first | exact trivial | refine ⟨rfl, ?_⟩)), ?_⟩
      · exact ⟨by rw [if_neg h4], by show A1.length = _; omega, rfl, by show T1.map (·.id) = _; rw [hm3]; rfl, by show T1.length = _; omega, rfl⟩
      · have hs := hs.pm 2 [0]
        show Sat κ w (pts b9 (24, nm n) :: pts b3 (43, encT t) :: pts b (92, [.slice (some ⟨ba, 0, none⟩) A1.length ca, .slice (some ⟨bt, 0, none⟩) T1.length ct, .slice pr lb.length cr, ptrV bA, ptrV bI, .int .i64 e.time, .int .i64 e.now]) ::
    sl 46 (.slice (some ⟨ba, 0, none⟩) A1.length ca) (37, A1.flatMap encA) :: sl 16 (.slice (some ⟨bt, 0, none⟩) T1.length ct) (43, T1.flatMap encT) :: sl 1 (.slice pr lb.length cr) (72, lb.map ptrV) ::
    ixB bA (idxOf (A1.map (·.id))) :: ixB bI (idxOf (T1.map (·.id))) :: (rowsP e.rws lb ++ cs))
        rw [show T1.length = e.trs.length by omega, hm3]
        exact hs
  obtain ⟨hE, fa, fr, ft, fl, fm⟩ := hE
  rw [← hE] at hF
  refine .seq ?_
  refine .reg ?_
  refine .fa ?_
  refine .sx (r' := encT { t with state := 0 }) rfl ?_
  refine .go ?_
  refine .seq ?_
  refine .reg ?_
  refine .mv ?_
  refine .ldw ?_
  refine .ldw ?_
  refine .mv ?_
  refine .mv ?_
  refine .sat (cs' := engO b E ⟨some ⟨ba, 0, none⟩, ca, some ⟨bt, 0, none⟩, ct, pr, cr, bA, bI, lb⟩ cs) (fun w hs => hs.pm 2 []) ?_
  have hrE : RowOk E := ⟨by rw [fa]; exact hr.la, by rw [fr, fa]; exact hr.lr, by rw [fr]; exact hr.lw⟩
  refine .ce (eadd_tr b E ⟨some ⟨ba, 0, none⟩, ca, some ⟨bt, 0, none⟩, ct, pr, cr, bA, bI, lb⟩ (by rw [fr]; exact hi) { t with state := 0 } n d c (by rw [fa]; exact hd) (by rw [fa]; exact hc) hrE (by rw [fr]; exact hlt) (by rw [ft]; exact hnt) (by rw [fl]; exact htl) (by rw [fm]; exact htm) hev κ hκ cs) (fun i' hi' => ?_)
  refine .go ?_
  refine .seq ?_
  refine .reg ?_
  refine .as ?_
  refine .go ?_
  refine .r1 fun w hs => ?_
  rw [hF]
  exact ⟨i', by rw [hi', fr], rfl, hs⟩
end Go.Proofs.YtpcechnalfaajaaDoor

/- engine: second, its refusals. -/
namespace Go.Proofs.YtpcechnalfaajaaDoor
open Go Go.Proofs

set_option maxHeartbeats 2000000 in
theorem second_tr (b : Nat) (e : Eng) (i : EngI) (hi : i.lb.length = e.rws.length) (t : Transfer) (hn : e.ids.Nodup) (hnt : e.tids.Nodup) (hr : RowOk e) (hlt : ∀ l ∈ e.rws, l.length + 2 < 90000) (htl : e.trs.length < 600)
    (htm : -1000000000000 ≤ e.time ∧ e.time ≤ 1000000000000) (hev : -1000000000000 ≤ bclr t.flags 1 ∧ bclr t.flags 1 ≤ 1000000000000) (hpay : ∀ id t, e.transfer id = some t → posN (e.payer t) e.ids ≠ none)
    (hdc : ∀ p ∈ e.trs, band p.flags 2 ≠ 0 → posN p.debit e.ids ≠ none ∧ posN p.credit e.ids ≠ none) (κ : Kap) (hκ : Laid κ) (cs : List HProp) :
    Te Tryd.prog 64 [.pointer (some ⟨b, 0, none⟩), .agg (encT t).toArray] κ (engO b e i cs) (fun i' : EngI => i'.lb.length = e.rws.length) (fun _ => .int .i64 (e.second t).2) (fun i' => engO b (e.second t).1 i' cs) := by
  refine .enter Tryd.func64 rfl rfl ?_
  refine .seq ?_
  refine .reg ?_
  refine .bx fun b3 => ?_
  refine .as ?_
  refine .go ?_
  refine .seq ?_
  rw [vc_agg]
  have hil : e.tids.length = e.trs.length := by simp [Eng.tids]
  refine .regD [(b, 0, [.slice i.pa e.acc.length i.ca, .slice i.pt e.trs.length i.ct, .slice i.pr i.lb.length i.cr, ptrV i.bA, ptrV i.bI, .int .i64 e.time, .int .i64 e.now]), (b3, 0, encT t)] [] ?_
  refine .mv 0 ?_
  refine .nc 1 ?_
  refine .fa 2 ?_
  refine .fa 3 ?_
  refine .ld 4 ?_
  refine .fa 5 ?_
  refine .ld 6 (v := .agg (nm t.pid).toArray) ?_
  refine .pm 7 [6, 0, 1, 2, 3, 4, 5] ?_
  refine .cl 7 (getB_tr i.bI (idxOf e.tids) (idx_srt hnt) (by rw [idx_len hnt, hil]; omega) t.pid κ _) ?_
  rw [idx_get hnt]
  refine .pm 7 [1, 2, 3, 4, 5, 6, 0] ?_
  cases hp : posN t.pid e.tids with
  | none =>
    simp only [Option.map_none, Option.getD_none, Option.isSome_none]
    refine .mv 8 ?_
    refine .ex 9 ?_
    refine .ex 10 ?_
    refine .as 11 ?_
    refine .as 12 ?_
    refine .go ?_
    refine .seq ?_
    refine .seq ?_
    refine .reg ?_
    refine .mv ?_
    refine .nt ?_
    refine .go ?_
    refine .cond rfl (fun hc => ?_) (fun hc => by cases hc)
    refine .seq ?_
    refine .reg ?_
    refine .as ?_
    refine .go ?_
    refine .r1 fun w hs => ?_
    rw [second_none hp]
    exact ⟨i, hi, rfl, hs.rows⟩
  | some k =>
  obtain ⟨hk, hkid⟩ := posN_some hp
  have hk : k < e.trs.length := by omega
  have hpk : e.trs.getD k zT = e.trs[k] := getD_at hk
  have hpm : e.trs[k] ∈ e.trs := List.getElem_mem hk
  have key := second_some hp hpk rfl
  have hdc := hdc _ hpm
  simp only [Option.map_some, Option.getD_some, Option.isSome_some]
  refine .mv 8 ?_
  refine .ex 9 ?_
  refine .ex 10 ?_
  refine .as 11 ?_
  refine .as 12 ?_
  refine .go ?_
  refine .seq ?_
  refine .seq ?_
  refine .reg ?_
  refine .mv ?_
  refine .nt ?_
  refine .go ?_
  refine .cond rfl (fun hc => by cases hc) (fun hc => ?_)
  refine .go ?_
  refine .slp (p := i.pt) (cap := i.ct) (sz := 16) (n0 := e.trs.length) (by omega) (fun bt hbt _ => ?_)
  rw [hbt]
  refine .seq ?_
  refine .reg ?_
  refine .mv ?_
  refine .nc ?_
  refine .fa ?_
  refine .fa ?_
  refine .ld ?_
  refine .mv ?_
  refine .ix ?_
  refine .as ?_
  refine .go ?_
  have hT : ∀ (cs : List HProp) [RdAt bt cs 0 (e.trs.flatMap encT)], RdAt bt cs (0 + ((k : Nat) : Int).toNat * 16) (encT e.trs[k]) := fun cs h => h.sub encT_len k hk
  generalize hpe : e.trs[k] = p at *
  generalize hheld : e.amount p.id = held at *
  refine .seq ?_
  refine .block ?_
  refine .seq ?_
  refine .reg ?_
  refine .mv ?_
  refine .nc ?_
  refine .fa ?_
  refine .lx (show getV false (encT p) 12 1 = some (.int .i64 p.flags) from rfl) ?_
  refine .an ?_
  refine .eq ?_
  refine .as ?_
  refine .go ?_
  refine .cond rfl (fun hc => ?_) (fun hc => ?_)
  · have hbad : secE t p held = 21 := if_pos (of_decide_eq_true hc)
    refine .seq ?_
    refine .reg ?_
    refine .as ?_
    refine .go ?_
    refine .r1 fun w hs => ?_
    have k2 : e.second t = (e, 21) := key.trans (by rw [hbad]; exact if_pos (by decide))
    rw [k2]
    exact ⟨{ i with pt := some ⟨bt, 0, none⟩ }, hi, rfl, hs.rows⟩
  have h21 : ¬ band p.flags 2 = 0 := of_decide_eq_false hc
  refine .jn (ι := Unit) (fun _ => [(0, .pointer (some ⟨b, 0, none⟩)), (3, .pointer (some ⟨b3, 0, none⟩)), (4, .int .i64 0), (7, .pointer (some ⟨bt, 0 + ((k : Nat) : Int).toNat * 16, none⟩)), (44, .bool (decide (p.state = 2 ∨ p.state = 3)))]) (fun _ => pts b3 (43, encT t) :: engO b e { i with pt := some ⟨bt, 0, none⟩ } cs) (fun _ => True) ?_ fun _ _ => ?_
  · refine .reg ?_
    refine .mv ?_
    refine .nc ?_
    refine .fa ?_
    refine .lx (show getV false (encT p) 15 1 = some (.int .i64 p.state) from rfl) ?_
    refine .eq ?_
    refine .mv ?_
    by_cases h2 : p.state = 2
    · rw [decide_eq_true h2, decide_eq_true (.inl h2)]
      repeat refine .skip ?_
      first | refine .pt ?_ | refine .pf ?_
      refine .as ?_
      exact .nil fun aa w hf hs => ⟨(), trivial, hf.to (by repeat (first | exact trivial | refine ⟨rfl, ?_⟩)), hs⟩
    · rw [decide_eq_false h2]
      refine .mv ?_
      refine .nc ?_
      refine .fa ?_
      refine .lx (show getV false (encT p) 15 1 = some (.int .i64 p.state) from rfl) ?_
      refine .eq ?_
      first | refine .pt ?_ | refine .pf ?_
      refine .as ?_
      rw [show decide (p.state = 2 ∨ p.state = 3) = decide (p.state = 3) from by simp [h2]]
      exact .nil fun aa w hf hs => ⟨(), trivial, hf.to (by repeat (first | exact trivial | refine ⟨rfl, ?_⟩)), hs⟩
  refine .cond rfl (fun hc => ?_) (fun hc => ?_)
  · have hbad : secE t p held = 22 := (if_neg h21).trans (if_pos (of_decide_eq_true hc))
    refine .seq ?_
    refine .reg ?_
    refine .as ?_
    refine .go ?_
    refine .r1 fun w hs => ?_
    have k2 : e.second t = (e, 22) := key.trans (by rw [hbad]; exact if_pos (by decide))
    rw [k2]
    exact ⟨{ i with pt := some ⟨bt, 0, none⟩ }, hi, rfl, hs.rows⟩
  have h22 := of_decide_eq_false hc
  refine .seq ?_
  refine .reg ?_
  refine .mv ?_
  refine .nc ?_
  refine .fa ?_
  refine .lx (show getV false (encT p) 15 1 = some (.int .i64 p.state) from rfl) ?_
  refine .eq ?_
  refine .as ?_
  refine .go ?_
  refine .cond rfl (fun hc => ?_) (fun hc => ?_)
  · have hbad : secE t p held = 23 := (if_neg h21).trans ((if_neg h22).trans (if_pos (of_decide_eq_true hc)))
    refine .seq ?_
    refine .reg ?_
    refine .as ?_
    refine .go ?_
    refine .r1 fun w hs => ?_
    have k2 : e.second t = (e, 23) := key.trans (by rw [hbad]; exact if_pos (by decide))
    rw [k2]
    exact ⟨{ i with pt := some ⟨bt, 0, none⟩ }, hi, rfl, hs.rows⟩
  have h23 := of_decide_eq_false hc
  refine .jn (ι := Unit) (fun _ => [(0, .pointer (some ⟨b, 0, none⟩)), (3, .pointer (some ⟨b3, 0, none⟩)), (4, .int .i64 0), (7, .pointer (some ⟨bt, 0 + ((k : Nat) : Int).toNat * 16, none⟩)), (63, .bool (mis t p))]) (fun _ => pts b3 (43, encT t) :: engO b e { i with pt := some ⟨bt, 0, none⟩ } cs) (fun _ => True) ?_ fun _ _ => ?_
  · refine .regD [(b3, 0, encT t), (bt, 0 + ((k : Nat) : Int).toNat * 16, encT p)] [] ?_
    refine .fa 0 ?_
    refine .ld 1 (v := .agg (nm t.debit).toArray) ?_
    refine .bz 2 ?_
    refine .nen 3 t.debit 0 ?_
    refine .mv 4 ?_
    refine .caseB 68 rfl (fun a1 => ?_) (fun a1 => ?_)
    · refine .fa 5 ?_
      refine .ld 6 (v := .agg (nm t.debit).toArray) ?_
      refine .mv 7 ?_
      refine .nc 8 ?_
      refine .fa 9 ?_
      refine .lx 10 (show getV true (encT p) 2 2 = some (.agg (nm p.debit).toArray) from rfl) ?_
      refine .nen 11 t.debit p.debit ?_
      refine .pt 12 ?_
      refine .mv 13 ?_
      refine .caseB 77 rfl (fun a2 => ?_) (fun a2 => ?_)
      · refine .skip 14 ?_
        refine .skip 15 ?_
        refine .skip 16 ?_
        refine .skip 17 ?_
        refine .skip 18 ?_
        refine .skip 19 ?_
        refine .skip 20 ?_
        refine .skip 21 ?_
        refine .skip 22 ?_
        refine .skip 23 ?_
        refine .skip 24 ?_
        refine .skip 25 ?_
        refine .skip 26 ?_
        refine .pt 27 ?_
        refine .mv 28 ?_
        refine .skip 29 ?_
        refine .skip 30 ?_
        refine .skip 31 ?_
        refine .skip 32 ?_
        refine .skip 33 ?_
        refine .skip 34 ?_
        refine .skip 35 ?_
        refine .skip 36 ?_
        refine .skip 37 ?_
        refine .skip 38 ?_
        refine .skip 39 ?_
        refine .skip 40 ?_
        refine .pt 41 ?_
        refine .as 42 ?_
        rw [show mis t p = true from by unfold mis; rw [a1, a2]; rfl]
        exact .nil fun aa w hf hs => ⟨(), trivial, hf.to (by repeat (first | exact trivial | refine ⟨rfl, ?_⟩)), hs⟩
      · skip
        refine .fa 14 ?_
        refine .ld 15 (v := .agg (nm t.credit).toArray) ?_
        refine .bz 16 ?_
        refine .nen 17 t.credit 0 ?_
        refine .mv 18 ?_
        refine .caseB 82 rfl (fun b1 => ?_) (fun b1 => ?_)
        · refine .fa 19 ?_
          refine .ld 20 (v := .agg (nm t.credit).toArray) ?_
          refine .mv 21 ?_
          refine .nc 22 ?_
          refine .fa 23 ?_
          refine .lx 24 (show getV true (encT p) 4 2 = some (.agg (nm p.credit).toArray) from rfl) ?_
          refine .nen 25 t.credit p.credit ?_
          refine .pt 26 ?_
          refine .pf 27 ?_
          refine .mv 28 ?_
          refine .caseB 92 rfl (fun b2 => ?_) (fun b2 => ?_)
          · refine .skip 29 ?_
            refine .skip 30 ?_
            refine .skip 31 ?_
            refine .skip 32 ?_
            refine .skip 33 ?_
            refine .skip 34 ?_
            refine .skip 35 ?_
            refine .skip 36 ?_
            refine .skip 37 ?_
            refine .skip 38 ?_
            refine .skip 39 ?_
            refine .skip 40 ?_
            refine .pt 41 ?_
            refine .as 42 ?_
            rw [show mis t p = true from by unfold mis; rw [a1, a2, b1, b2]; rfl]
            exact .nil fun aa w hf hs => ⟨(), trivial, hf.to (by repeat (first | exact trivial | refine ⟨rfl, ?_⟩)), hs⟩
          · skip
            refine .fa 29 ?_
            refine .ld 30 (v := .int .i64 t.ledger) ?_
            refine .ne 31 ?_
            refine .mv 32 ?_
            refine .caseB 96 rfl (fun c1 => ?_) (fun c1 => ?_)
            · refine .fa 33 ?_
              refine .ld 34 (v := .int .i64 t.ledger) ?_
              refine .mv 35 ?_
              refine .nc 36 ?_
              refine .fa 37 ?_
              refine .lx 38 (show getV false (encT p) 11 1 = some (.int .i64 p.ledger) from rfl) ?_
              refine .ne 39 ?_
              refine .pt 40 ?_
              refine .pf 41 ?_
              refine .as 42 ?_
              rw [show mis t p = decide (t.ledger ≠ p.ledger) from by unfold mis; rw [a1, a2, b1, b2, c1]; rfl]
              exact .nil fun aa w hf hs => ⟨(), trivial, hf.to (by repeat (first | exact trivial | refine ⟨rfl, ?_⟩)), hs⟩
            · refine .skip 33 ?_
              refine .skip 34 ?_
              refine .skip 35 ?_
              refine .skip 36 ?_
              refine .skip 37 ?_
              refine .skip 38 ?_
              refine .skip 39 ?_
              refine .pf 40 ?_
              refine .pf 41 ?_
              refine .as 42 ?_
              rw [show mis t p = false from by unfold mis; rw [a1, a2, b1, b2, c1]; rfl]
              exact .nil fun aa w hf hs => ⟨(), trivial, hf.to (by repeat (first | exact trivial | refine ⟨rfl, ?_⟩)), hs⟩
        · refine .skip 19 ?_
          refine .skip 20 ?_
          refine .skip 21 ?_
          refine .skip 22 ?_
          refine .skip 23 ?_
          refine .skip 24 ?_
          refine .skip 25 ?_
          refine .pf 26 ?_
          refine .pf 27 ?_
          refine .mv 28 ?_
          refine .fa 29 ?_
          refine .ld 30 (v := .int .i64 t.ledger) ?_
          refine .ne 31 ?_
          refine .mv 32 ?_
          refine .caseB 96 rfl (fun c1 => ?_) (fun c1 => ?_)
          · refine .fa 33 ?_
            refine .ld 34 (v := .int .i64 t.ledger) ?_
            refine .mv 35 ?_
            refine .nc 36 ?_
            refine .fa 37 ?_
            refine .lx 38 (show getV false (encT p) 11 1 = some (.int .i64 p.ledger) from rfl) ?_
            refine .ne 39 ?_
            refine .pt 40 ?_
            refine .pf 41 ?_
            refine .as 42 ?_
            rw [show mis t p = decide (t.ledger ≠ p.ledger) from by unfold mis; rw [a1, a2, b1, c1]; rfl]
            exact .nil fun aa w hf hs => ⟨(), trivial, hf.to (by repeat (first | exact trivial | refine ⟨rfl, ?_⟩)), hs⟩
          · refine .skip 33 ?_
            refine .skip 34 ?_
            refine .skip 35 ?_
            refine .skip 36 ?_
            refine .skip 37 ?_
            refine .skip 38 ?_
            refine .skip 39 ?_
            refine .pf 40 ?_
            refine .pf 41 ?_
            refine .as 42 ?_
            rw [show mis t p = false from by unfold mis; rw [a1, a2, b1, c1]; rfl]
            exact .nil fun aa w hf hs => ⟨(), trivial, hf.to (by repeat (first | exact trivial | refine ⟨rfl, ?_⟩)), hs⟩
    · refine .skip 5 ?_
      refine .skip 6 ?_
      refine .skip 7 ?_
      refine .skip 8 ?_
      refine .skip 9 ?_
      refine .skip 10 ?_
      refine .skip 11 ?_
      refine .pf 12 ?_
      refine .mv 13 ?_
      refine .fa 14 ?_
      refine .ld 15 (v := .agg (nm t.credit).toArray) ?_
      refine .bz 16 ?_
      refine .nen 17 t.credit 0 ?_
      refine .mv 18 ?_
      refine .caseB 82 rfl (fun b1 => ?_) (fun b1 => ?_)
      · refine .fa 19 ?_
        refine .ld 20 (v := .agg (nm t.credit).toArray) ?_
        refine .mv 21 ?_
        refine .nc 22 ?_
        refine .fa 23 ?_
        refine .lx 24 (show getV true (encT p) 4 2 = some (.agg (nm p.credit).toArray) from rfl) ?_
        refine .nen 25 t.credit p.credit ?_
        refine .pt 26 ?_
        refine .pf 27 ?_
        refine .mv 28 ?_
        refine .caseB 92 rfl (fun b2 => ?_) (fun b2 => ?_)
        · refine .skip 29 ?_
          refine .skip 30 ?_
          refine .skip 31 ?_
          refine .skip 32 ?_
          refine .skip 33 ?_
          refine .skip 34 ?_
          refine .skip 35 ?_
          refine .skip 36 ?_
          refine .skip 37 ?_
          refine .skip 38 ?_
          refine .skip 39 ?_
          refine .skip 40 ?_
          refine .pt 41 ?_
          refine .as 42 ?_
          rw [show mis t p = true from by unfold mis; rw [a1, b1, b2]; rfl]
          exact .nil fun aa w hf hs => ⟨(), trivial, hf.to (by repeat (first | exact trivial | refine ⟨rfl, ?_⟩)), hs⟩
        · skip
          refine .fa 29 ?_
          refine .ld 30 (v := .int .i64 t.ledger) ?_
          refine .ne 31 ?_
          refine .mv 32 ?_
          refine .caseB 96 rfl (fun c1 => ?_) (fun c1 => ?_)
          · refine .fa 33 ?_
            refine .ld 34 (v := .int .i64 t.ledger) ?_
            refine .mv 35 ?_
            refine .nc 36 ?_
            refine .fa 37 ?_
            refine .lx 38 (show getV false (encT p) 11 1 = some (.int .i64 p.ledger) from rfl) ?_
            refine .ne 39 ?_
            refine .pt 40 ?_
            refine .pf 41 ?_
            refine .as 42 ?_
            rw [show mis t p = decide (t.ledger ≠ p.ledger) from by unfold mis; rw [a1, b1, b2, c1]; rfl]
            exact .nil fun aa w hf hs => ⟨(), trivial, hf.to (by repeat (first | exact trivial | refine ⟨rfl, ?_⟩)), hs⟩
          · refine .skip 33 ?_
            refine .skip 34 ?_
            refine .skip 35 ?_
            refine .skip 36 ?_
            refine .skip 37 ?_
            refine .skip 38 ?_
            refine .skip 39 ?_
            refine .pf 40 ?_
            refine .pf 41 ?_
            refine .as 42 ?_
            rw [show mis t p = false from by unfold mis; rw [a1, b1, b2, c1]; rfl]
            exact .nil fun aa w hf hs => ⟨(), trivial, hf.to (by repeat (first | exact trivial | refine ⟨rfl, ?_⟩)), hs⟩
      · refine .skip 19 ?_
        refine .skip 20 ?_
        refine .skip 21 ?_
        refine .skip 22 ?_
        refine .skip 23 ?_
        refine .skip 24 ?_
        refine .skip 25 ?_
        refine .pf 26 ?_
        refine .pf 27 ?_
        refine .mv 28 ?_
        refine .fa 29 ?_
        refine .ld 30 (v := .int .i64 t.ledger) ?_
        refine .ne 31 ?_
        refine .mv 32 ?_
        refine .caseB 96 rfl (fun c1 => ?_) (fun c1 => ?_)
        · refine .fa 33 ?_
          refine .ld 34 (v := .int .i64 t.ledger) ?_
          refine .mv 35 ?_
          refine .nc 36 ?_
          refine .fa 37 ?_
          refine .lx 38 (show getV false (encT p) 11 1 = some (.int .i64 p.ledger) from rfl) ?_
          refine .ne 39 ?_
          refine .pt 40 ?_
          refine .pf 41 ?_
          refine .as 42 ?_
          rw [show mis t p = decide (t.ledger ≠ p.ledger) from by unfold mis; rw [a1, b1, c1]; rfl]
          exact .nil fun aa w hf hs => ⟨(), trivial, hf.to (by repeat (first | exact trivial | refine ⟨rfl, ?_⟩)), hs⟩
        · refine .skip 33 ?_
          refine .skip 34 ?_
          refine .skip 35 ?_
          refine .skip 36 ?_
          refine .skip 37 ?_
          refine .skip 38 ?_
          refine .skip 39 ?_
          refine .pf 40 ?_
          refine .pf 41 ?_
          refine .as 42 ?_
          rw [show mis t p = false from by unfold mis; rw [a1, b1, c1]; rfl]
          exact .nil fun aa w hf hs => ⟨(), trivial, hf.to (by repeat (first | exact trivial | refine ⟨rfl, ?_⟩)), hs⟩
  refine .cond rfl (fun hc => ?_) (fun hc => ?_)
  · have hbad : secE t p held = 25 := (if_neg h21).trans ((if_neg h22).trans ((if_neg h23).trans (if_pos hc)))
    refine .seq ?_
    refine .reg ?_
    refine .as ?_
    refine .go ?_
    refine .r1 fun w hs => ?_
    have k2 : e.second t = (e, 25) := key.trans (by rw [hbad]; exact if_pos (by decide))
    rw [k2]
    exact ⟨{ i with pt := some ⟨bt, 0, none⟩ }, hi, rfl, hs.rows⟩
  have h25 : ¬ mis t p = true := fun h => by rw [h] at hc; cases hc
  refine .go ?_
  refine .seq ?_
  refine .reg ?_
  refine .mv ?_
  refine .mv ?_
  refine .nc ?_
  refine .fa ?_
  refine .lx (show getV true (encT p) 0 2 = some (.agg (nm p.id).toArray) from rfl) ?_
  refine .cl (Tr.ef1 (amount_tr b e hn hnt hr htl { i with pt := some ⟨bt, 0, none⟩ } hi p.id (hpay p.id) κ _)) ?_
  rw [hheld]
  refine .al fun b8 => ?_
  refine .stw ?_
  refine .go ?_
  refine .seq ?_
  refine .reg ?_
  refine .fa ?_
  rw [vc_agg]
  refine .ld (v := .agg (nm t.amount).toArray) ?_
  refine .al fun b9 => ?_
  refine .stw ?_
  refine .go ?_
  rw [vc_agg]
  refine .jn (ι := Unit) (fun _ => [(0, .pointer (some ⟨b, 0, none⟩)), (3, .pointer (some ⟨b3, 0, none⟩)), (4, .int .i64 0), (7, .pointer (some ⟨bt, 0 + ((k : Nat) : Int).toNat * 16, none⟩)), (8, .pointer (some ⟨b8, 0, none⟩)), (9, .pointer (some ⟨b9, 0, none⟩))]) (fun _ => pts b9 (24, nm (secN t held)) :: pts b8 (24, nm held) :: pts b3 (43, encT t) :: engO b e { i with pt := some ⟨bt, 0, none⟩ } cs) (fun _ => True) ?_ fun _ _ => ?_
  · refine .seq ?_
    refine .reg ?_
    refine .ldw ?_
    refine .bz ?_
    refine .eqn t.amount 0 ?_
    refine .go ?_
    refine .cond rfl (fun hc => ?_) (fun hc => ?_)
    · rw [show secN t held = held from if_pos (of_decide_eq_true hc)]
      refine .reg ?_
      refine .ldw ?_
      refine .stw ?_
      exact .nil fun aa w hf hs => ⟨(), trivial, hf.to (by repeat (first | exact trivial | refine ⟨rfl, ?_⟩)), hs⟩
    · rw [show secN t held = t.amount from if_neg (of_decide_eq_false hc)]
      exact .skip fun aa w hf hs => ⟨(), trivial, hf.to (by repeat (first | exact trivial | refine ⟨rfl, ?_⟩)), hs⟩
  generalize hnn : secN t held = n at *
  refine .seq ?_
  refine .seq ?_
  refine .reg ?_
  refine .ldw ?_
  refine .ldw ?_
  refine .cl (compare_tr n held κ _) ?_
  refine .as ?_
  refine .go ?_
  refine .jn (ι := Unit) (fun _ => [(0, .pointer (some ⟨b, 0, none⟩)), (3, .pointer (some ⟨b3, 0, none⟩)), (4, .int .i64 0), (7, .pointer (some ⟨bt, 0 + ((k : Nat) : Int).toNat * 16, none⟩)), (8, .pointer (some ⟨b8, 0, none⟩)), (9, .pointer (some ⟨b9, 0, none⟩)), (132, .bool (decide (held.toNat < n.toNat ∨ (n.toNat < held.toNat ∧ band t.flags 8 ≠ 0))))]) (fun _ => pts b9 (24, nm n) :: pts b8 (24, nm held) :: pts b3 (43, encT t) :: engO b e { i with pt := some ⟨bt, 0, none⟩ } cs) (fun _ => True) ?_ fun _ _ => ?_
  · rcases cmp_ways n held with ⟨h, h'⟩ | ⟨h, h'⟩ | ⟨h, h'⟩
    · rw [h', show decide (held.toNat < n.toNat ∨ (n.toNat < held.toNat ∧ band t.flags 8 ≠ 0)) = decide (band t.flags 8 ≠ 0) from by rw [decide_eq_decide]; omega]
      refine .reg ?_
      refine .mv ?_
      refine .gt ?_
      refine .mv ?_
      refine .mv ?_
      refine .lt ?_
      refine .mv ?_
      refine .fa ?_
      refine .ld (v := .int .i64 t.flags) ?_
      refine .an ?_
      refine .ne ?_
      first | refine .pt ?_ | refine .pf ?_
      first | refine .pt ?_ | refine .pf ?_
      exact .nil fun aa w hf hs => ⟨(), trivial, hf.to (by repeat (first | exact trivial | refine ⟨rfl, ?_⟩)), hs⟩
    · rw [h', decide_eq_false (p := held.toNat < n.toNat ∨ (n.toNat < held.toNat ∧ band t.flags 8 ≠ 0)) (by omega)]
      refine .reg ?_
      refine .mv ?_
      refine .gt ?_
      refine .mv ?_
      refine .mv ?_
      refine .lt ?_
      refine .mv ?_
      repeat refine .skip ?_
      first | refine .pt ?_ | refine .pf ?_
      first | refine .pt ?_ | refine .pf ?_
      exact .nil fun aa w hf hs => ⟨(), trivial, hf.to (by repeat (first | exact trivial | refine ⟨rfl, ?_⟩)), hs⟩
    · rw [h', decide_eq_true (p := held.toNat < n.toNat ∨ (n.toNat < held.toNat ∧ band t.flags 8 ≠ 0)) (by omega)]
      refine .reg ?_
      refine .mv ?_
      refine .gt ?_
      refine .mv ?_
      repeat refine .skip ?_
      first | refine .pt ?_ | refine .pf ?_
      exact .nil fun aa w hf hs => ⟨(), trivial, hf.to (by repeat (first | exact trivial | refine ⟨rfl, ?_⟩)), hs⟩
  refine .cond rfl (fun hc => ?_) (fun hc => ?_)
  · have hbad : secE t p held = 24 := (if_neg h21).trans ((if_neg h22).trans ((if_neg h23).trans ((if_neg h25).trans (by rw [hnn]; exact if_pos (of_decide_eq_true hc)))))
    refine .seq ?_
    refine .reg ?_
    refine .as ?_
    refine .go ?_
    refine .r1 fun w hs => ?_
    have k2 : e.second t = (e, 24) := key.trans (by rw [hbad]; exact if_pos (by decide))
    rw [k2]
    exact ⟨{ i with pt := some ⟨bt, 0, none⟩ }, hi, rfl, hs.pm 3 []⟩
  have hbad : secE t p held = 0 := (if_neg h21).trans ((if_neg h22).trans ((if_neg h23).trans ((if_neg h25).trans (by rw [hnn]; exact if_neg (of_decide_eq_false hc)))))
  have key := key.trans (if_neg (by rw [hbad]; decide))
  obtain ⟨hpd, hpc⟩ := hdc h21
  refine .go ?_
  obtain ⟨d, hd⟩ := Option.ne_none_iff_exists'.1 hpd
  obtain ⟨c, hc'⟩ := Option.ne_none_iff_exists'.1 hpc
  rw [hd, hc'] at key
  have key : e.second t = (secF e t p k d c held n, 0) := key
  have hdl : d < e.acc.length := by obtain ⟨h, _⟩ := posN_some hd; simpa [Eng.ids] using h
  have hcl : c < e.acc.length := by obtain ⟨h, _⟩ := posN_some hc'; simpa [Eng.ids] using h
  have hal : e.ids.length = e.acc.length := by simp [Eng.ids]
  have gd := fun κ cs => getB_tr i.bA (idxOf e.ids) (idx_srt hn) (by rw [idx_len hn, hal]; have := hr.la; omega) p.debit κ cs
  have gc := fun κ cs => getB_tr i.bA (idxOf e.ids) (idx_srt hn) (by rw [idx_len hn, hal]; have := hr.la; omega) p.credit κ cs
  rw [idx_get hn, hd] at gd
  rw [idx_get hn, hc'] at gc
  simp only [Option.map_some, Option.getD_some, Option.isSome_some] at gd gc
  refine .seq ?_
  refine .regD [(b, 0, [.slice i.pa e.acc.length i.ca, .slice (some ⟨bt, 0, none⟩) e.trs.length i.ct, .slice i.pr i.lb.length i.cr, ptrV i.bA, ptrV i.bI, .int .i64 e.time, .int .i64 e.now]), (bt, 0 + ((k : Nat) : Int).toNat * 16, encT p)] [] ?_
  refine .mv 0 ?_
  refine .nc 1 ?_
  refine .fa 2 ?_
  refine .fa 3 ?_
  refine .ld 4 ?_
  refine .mv 5 ?_
  refine .nc 6 ?_
  refine .fa 7 ?_
  refine .lx 8 (show getV true (encT p) 2 2 = some (.agg (nm p.debit).toArray) from rfl) ?_
  refine .pm 9 [7, 0, 1, 2, 3, 4, 5, 6, 8] ?_
  refine .cl 9 (gd κ _) ?_
  refine .pm 9 [1, 2, 3, 4, 5, 6, 7, 0, 8] ?_
  refine .mv 10 ?_
  refine .ex 11 ?_
  refine .ex 12 ?_
  refine .as 13 ?_
  refine .as 14 ?_
  refine .go ?_
  refine .seq ?_
  refine .regD [(b, 0, [.slice i.pa e.acc.length i.ca, .slice (some ⟨bt, 0, none⟩) e.trs.length i.ct, .slice i.pr i.lb.length i.cr, ptrV i.bA, ptrV i.bI, .int .i64 e.time, .int .i64 e.now]), (bt, 0 + ((k : Nat) : Int).toNat * 16, encT p)] [] ?_
  refine .mv 0 ?_
  refine .nc 1 ?_
  refine .fa 2 ?_
  refine .fa 3 ?_
  refine .ld 4 ?_
  refine .mv 5 ?_
  refine .nc 6 ?_
  refine .fa 7 ?_
  refine .lx 8 (show getV true (encT p) 4 2 = some (.agg (nm p.credit).toArray) from rfl) ?_
  refine .pm 9 [7, 0, 1, 2, 3, 4, 5, 6, 8] ?_
  refine .cl 9 (gc κ _) ?_
  refine .pm 9 [1, 2, 3, 4, 5, 6, 7, 0, 8] ?_
  refine .mv 10 ?_
  refine .ex 11 ?_
  refine .ex 12 ?_
  refine .as 13 ?_
  refine .as 14 ?_
  refine .go ?_
  have hrest := second_rest b e { i with pt := some ⟨bt, 0, none⟩ } hi t p k d c bt b3 b8 b9 held n rfl hk hpe hdl hcl hnt hr hlt htl htm hev κ hκ cs
  rw [key]
  exact hrest.more ⟨rfl, rfl, rfl, rfl, rfl, rfl, rfl, trivial⟩
end Go.Proofs.YtpcechnalfaajaaDoor

/- What an engine keeps, as the walks ask it. -/
namespace Go.Proofs.YtpcechnalfaajaaDoor
open Go Go.Proofs

theorem bclr1_all : (List.range 256).all (fun f => decide (0 ≤ bclr (f : Int) 1) && decide (bclr (f : Int) 1 ≤ 255)) = true := by kernel_rfl
theorem bclr1 {f : Int} (h0 : 0 ≤ f) (h1 : f ≤ 255) : 0 ≤ bclr f 1 ∧ bclr f 1 ≤ 255 := by
  have := List.all_eq_true.1 bclr1_all f.toNat (by rw [List.mem_range]; omega)
  rw [show ((f.toNat : Nat) : Int) = f by omega] at this
  simpa using this
theorem ruleT_flags {t : Transfer} (h : ruleT t = 0) : 0 ≤ t.flags ∧ t.flags ≤ 255 := by
  unfold ruleT at h
  split at h
  · cases h
  · split at h
    · cases h
    · rename_i h2
      constructor <;> (apply Classical.byContradiction; intro h3; apply h2)
      · exact .inl (by omega)
      · exact .inr (.inl (by omega))
/-- What the walks ask of an engine: m bounds its times, and its lists' lengths. -/
structure EngW (m : Nat) (e : Eng) : Prop where
  hn : e.ids.Nodup
  hnt : e.tids.Nodup
  la : e.acc.length ≤ 32
  lt : e.trs.length ≤ 256
  lr : e.rws.length = e.acc.length
  lw : ∀ l ∈ e.rws, l.length ≤ m
  htm : 0 ≤ e.time ∧ e.time ≤ m
  hnow : 0 ≤ e.now ∧ e.now ≤ 9223372036854775807
  htick : ∀ p ∈ e.trs, 0 ≤ p.tick ∧ p.tick ≤ e.now
  hpay : ∀ id t, e.transfer id = some t → posN (e.payer t) e.ids ≠ none
  hpid : ∀ t ∈ e.trs, t.pid ≠ 0 → posN t.pid e.tids ≠ none
  hdc : ∀ p ∈ e.trs, (band p.flags 2 ≠ 0 ∨ p.state = 1) → posN p.debit e.ids ≠ none ∧ posN p.credit e.ids ≠ none
theorem EngW.rowOk {m : Nat} {e : Eng} (h : EngW m e) (hm : m < 80000) : RowOk e := ⟨by have := h.la; omega, h.lr, fun l hl => by have := h.lw l hl; omega⟩
/-- A transfer but for its state. -/
def coreT (t : Transfer) : Transfer := { t with state := 0 }
theorem core_eq {t t' : Transfer} (h : coreT t' = coreT t) : t'.id = t.id ∧ t'.debit = t.debit ∧ t'.credit = t.credit ∧ t'.amount = t.amount ∧ t'.pid = t.pid ∧ t'.timeout = t.timeout ∧ t'.ledger = t.ledger ∧ t'.flags = t.flags ∧ t'.time = t.time ∧ t'.tick = t.tick := by
  unfold coreT at h
  injection h with h1 h2 h3 h4 h5 h6 h7 h8 h9 h10
  exact ⟨h1, h2, h3, h4, h5, h6, h7, h8, h9, h10⟩
theorem core_at {l l' : List Transfer} (h : l'.map coreT = l.map coreT) (k : Nat) : coreT (l'.getD k zT) = coreT (l.getD k zT) := by
  have h1 : ∀ (l : List Transfer), coreT (l.getD k zT) = (l.map coreT).getD k (coreT zT) := fun l => by
    simp only [List.getD, List.getElem?_map]
    cases l[k]? <;> rfl
  rw [h1, h1, h]
theorem core_tids {l l' : List Transfer} (h : l'.map coreT = l.map coreT) : l'.map (·.id) = l.map (·.id) := by
  have h1 : ∀ (l : List Transfer), l.map (·.id) = (l.map coreT).map (·.id) := fun l => by rw [List.map_map]; rfl
  rw [h1, h1 l, h]
theorem core_payer {e e' : Eng} (h : e'.trs.map coreT = e.trs.map coreT) {t t' : Transfer} (ht : coreT t' = coreT t) : e'.payer t' = e.payer t := by
  have h1 : t'.pid = t.pid := (core_eq ht).2.2.2.2.1
  have h2 : t'.debit = t.debit := (core_eq ht).2.1
  have h3 : e'.tids = e.tids := core_tids h
  unfold Eng.payer Eng.transfer
  rw [h1, h2, h3]
  cases posN t.pid e.tids with
  | none => rfl
  | some k =>
    simp only [Option.map_some, Option.getD_some]
    rw [(core_eq (core_at h k)).2.1]
/-- What only transfers' states change. -/
theorem EngW.core {m : Nat} {e e' : Eng} (h : EngW m e) (hi : e'.ids = e.ids) (ht : e'.trs.map coreT = e.trs.map coreT) {m' : Nat} (lr : e'.rws.length = e'.acc.length) (lw : ∀ l ∈ e'.rws, l.length ≤ m') (htm : 0 ≤ e'.time ∧ e'.time ≤ m')
    (hnw : e.now ≤ e'.now ∧ e'.now ≤ 9223372036854775807) (hst : ∀ k, (e'.trs.getD k zT).state = 1 → (e.trs.getD k zT).state = 1) : EngW m' e' where
  hn := by rw [hi]; exact h.hn
  hnt := by
    have : e'.tids = e.tids := core_tids ht
    rw [this]; exact h.hnt
  la := by
    have : e'.acc.length = e.acc.length := by have := congrArg List.length hi; simpa [Eng.ids] using this
    rw [this]; exact h.la
  lt := by
    have : e'.trs.length = e.trs.length := by have := congrArg List.length ht; simpa using this
    rw [this]; exact h.lt
  lr := lr
  lw := lw
  htm := htm
  hnow := ⟨Int.le_trans h.hnow.1 hnw.1, hnw.2⟩
  htick := by
    intro p hp
    obtain ⟨k, hk, rfl⟩ := List.getElem_of_mem hp
    have hl : e'.trs.length = e.trs.length := by have := congrArg List.length ht; simpa using this
    have hk' : k < e.trs.length := by omega
    have h1 := core_at ht k
    rw [getD_at hk, getD_at hk'] at h1
    rw [(core_eq h1).2.2.2.2.2.2.2.2.2]
    have := h.htick _ (List.getElem_mem hk')
    omega
  hpay := by
    intro id t h1
    have h3 : e'.tids = e.tids := core_tids ht
    unfold Eng.transfer at h1
    rw [h3] at h1
    cases hp : posN id e.tids with
    | none => rw [hp] at h1; cases h1
    | some k =>
      rw [hp] at h1
      simp only [Option.map_some, Option.some.injEq] at h1
      have h2 := h.hpay id (e.trs.getD k zT) (by unfold Eng.transfer; rw [hp]; rfl)
      rw [core_payer ht (show coreT t = coreT (e.trs.getD k zT) from by rw [← h1]; exact core_at ht k), hi]
      exact h2
  hpid := by
    intro p hp hc
    have h3 : e'.tids = e.tids := core_tids ht
    obtain ⟨k, hk, rfl⟩ := List.getElem_of_mem hp
    have hl : e'.trs.length = e.trs.length := by have := congrArg List.length ht; simpa using this
    have hk' : k < e.trs.length := by omega
    have h1 := core_at ht k
    rw [getD_at hk, getD_at hk'] at h1
    have h4 := (core_eq h1).2.2.2.2.1
    rw [h4] at hc ⊢
    rw [h3]
    exact h.hpid _ (List.getElem_mem hk') hc
  hdc := by
    intro p hp hc
    obtain ⟨k, hk, rfl⟩ := List.getElem_of_mem hp
    have hl : e'.trs.length = e.trs.length := by have := congrArg List.length ht; simpa using this
    have hk' : k < e.trs.length := by omega
    have h1 := core_at ht k
    have hs := hst k
    rw [getD_at hk, getD_at hk'] at h1 hs
    have e1 := (core_eq h1).2.2.2.2.2.2.2.1
    have e2 := (core_eq h1).2.1
    have e3 := (core_eq h1).2.2.1
    rw [e1] at hc
    rw [e2, e3, hi]
    exact h.hdc _ (List.getElem_mem hk') (hc.imp id hs)
theorem setState_core (e : Eng) (k : Nat) (s : Int) : (e.setState k s).trs.map coreT = e.trs.map coreT := by
  show (e.trs.set k { e.trs.getD k zT with state := s }).map coreT = _
  rw [List.map_set]
  by_cases hk : k < e.trs.length
  · rw [getD_at hk]
    apply List.ext_getElem?
    intro j
    rw [List.getElem?_set]
    split
    · rename_i h; subst h; simp [hk]; rfl
    · rfl
  · rw [List.set_eq_of_length_le (by simp; omega)]
theorem row1_lw {e : Eng} {m : Nat} (h : ∀ l ∈ e.rws, l.length ≤ m) (id : Num) (ev : Int) (n : Num) (i : Nat) : ∀ l ∈ (e.row1 id ev n i).rws, l.length ≤ m + 1 := by
  intro l hl
  rcases List.mem_or_eq_of_mem_set hl with hl | rfl
  · have := h l hl; omega
  · rw [List.length_append]
    rcases Nat.lt_or_ge i e.rws.length with hj | hj
    · rw [getD_at hj]; have := h _ (List.getElem_mem hj); simp; omega
    · simp [List.getD, hj]
theorem EngW.mono {m m' : Nat} {e : Eng} (h : EngW m e) (hm : m ≤ m') : EngW m' e := { h with lw := fun l hl => Nat.le_trans (h.lw l hl) hm, htm := ⟨h.htm.1, by have := h.htm.2; omega⟩ }
/-- What a step does to all but rows and states. -/
structure Alike (e e' : Eng) : Prop where
  ids : e'.ids = e.ids
  trs : e'.trs.map coreT = e.trs.map coreT
  now : e'.now = e.now
theorem Alike.acc {e e' : Eng} (h : Alike e e') : e'.acc.length = e.acc.length := by have := congrArg List.length h.ids; simpa [Eng.ids] using this
theorem Alike.len {e e' : Eng} (h : Alike e e') : e'.trs.length = e.trs.length := by have := congrArg List.length h.trs; simpa using this
theorem Alike.rfl' (e : Eng) : Alike e e := ⟨rfl, rfl, rfl⟩
theorem Alike.trans {a b c : Eng} (h : Alike a b) (k : Alike b c) : Alike a c := ⟨k.ids.trans h.ids, k.trs.trans h.trs, k.now.trans h.now⟩
theorem expire1_w {m : Nat} {e : Eng} (h : EngW m e) (k : Nat) : EngW (m + 2) (e.expire1 k) ∧ Alike e (e.expire1 k) := by
  unfold Eng.expire1
  simp only
  split
  · exact ⟨h.mono (by omega), .rfl' e⟩
  · generalize e.amount (e.trs.getD k zT).id = held
    generalize (posN (e.trs.getD k zT).debit e.ids).getD 0 = d
    generalize (posN (e.trs.getD k zT).credit e.ids).getD 0 = c
    obtain ⟨A, h1, h2, h3⟩ := Eng.release_form e (e.trs.getD k zT) held d c true
    rw [h1]
    generalize he1 : ({ ({ e with acc := A } : Eng).setState k 4 with time := (({ e with acc := A } : Eng).setState k 4).time + 1 } : Eng) = e1
    have a1 : Alike e e1 := by
      rw [← he1]
      exact ⟨h3, setState_core _ _ _, rfl⟩
    have w1 : ∀ l ∈ e1.rws, l.length ≤ m := by rw [← he1]; exact h.lw
    show EngW (m + 2) ((e1.row1 _ _ _ d).row1 _ _ _ c) ∧ Alike e ((e1.row1 _ _ _ d).row1 _ _ _ c)
    have a2 : Alike e ((e1.row1 (e.trs.getD k zT).id (-1) held d).row1 (e.trs.getD k zT).id (-1) held c) := ⟨by rw [Eng.row1_ids, Eng.row1_ids, a1.ids], by rw [Eng.row1_trs, Eng.row1_trs, a1.trs], a1.now⟩
    refine ⟨h.core a2.ids a2.trs ?_ (row1_lw (row1_lw w1 _ _ _ _) _ _ _ _) ?_ ?_ ?_, a2⟩
    · rw [Eng.row1_rws_len, Eng.row1_rws_len, a2.acc, ← h.lr, ← he1]; rfl
    · rw [Eng.row1_time, Eng.row1_time, ← he1]
      have := h.htm
      show 0 ≤ e.time + 1 ∧ e.time + 1 ≤ _
      omega
    · rw [a2.now]; exact ⟨Int.le_refl _, h.hnow.2⟩
    · intro j
      rw [Eng.row1_trs, Eng.row1_trs, ← he1]
      show ((e.trs.set k { e.trs.getD k zT with state := 4 }).getD j zT).state = 1 → _
      simp only [List.getD, List.getElem?_set]
      split
      · rename_i h4
        split
        · intro h5; simp at h5
        · intro h5; simp [zT] at h5
      · exact id
theorem tick_w {m : Nat} {e : Eng} (h : EngW m e) (now : Int) (hn : e.now ≤ now ∧ now ≤ 9223372036854775807) : ∀ k, EngW (m + 2 * k) ((List.range k).foldl Eng.expire1 { e with now := now }) ∧ Alike { e with now := now } ((List.range k).foldl Eng.expire1 { e with now := now }) := by
  intro k
  induction k with
  | zero => exact ⟨h.core (e' := { e with now := now }) rfl rfl h.lr h.lw h.htm hn (fun _ => id), .rfl' _⟩
  | succ k ih =>
    rw [List.range_succ, List.foldl_append]
    have := expire1_w ih.1 k
    exact ⟨this.1, ih.2.trans this.2⟩
end Go.Proofs.YtpcechnalfaajaaDoor

/- engine: makeTransfer. -/
namespace Go.Proofs.YtpcechnalfaajaaDoor
open Go Go.Proofs

def mkT (e : Eng) (t : Transfer) (d c : Nat) : Eng × Int :=
  if c = d then (e, 16)
  else if (e.acc.getD d zA).ledger ≠ t.ledger ∨ (e.acc.getD c zA).ledger ≠ t.ledger then (e, 17)
  else if band (e.acc.getD d zA).flags 8 ≠ 0 then (e, 26)
  else if band (e.acc.getD c zA).flags 8 ≠ 0 then (e, 27)
  else e.first t d c
theorem makeTransfer_eq (e : Eng) (t : Transfer) : e.makeTransfer t = if ruleT t ≠ 0 then (e, ruleT t) else
  match e.transfer t.id with
  | some old => (e, againT t old)
  | none =>
    if e.trs.length = 256 then (e, 31) else
    if t.pid ≠ 0 then e.second t else
    match posN t.debit e.ids with
    | none => (e, 15)
    | some d => match posN t.credit e.ids with
      | none => (e, 16)
      | some c => mkT e t d c := rfl
set_option maxHeartbeats 2000000 in
theorem makeTransfer_tr (b : Nat) (e : Eng) (i : EngI) (hi : i.lb.length = e.rws.length) (t : Transfer) {m : Nat} (hm : m < 80000) (hW : EngW m e) (κ : Kap) (hκ : Laid κ) (cs : List HProp) :
    Te Tryd.prog 45 [.pointer (some ⟨b, 0, none⟩), .agg (encT t).toArray] κ (engO b e i cs) (fun i' : EngI => i'.lb.length = e.rws.length) (fun _ => .int .i64 (e.makeTransfer t).2) (fun i' => engO b (e.makeTransfer t).1 i' cs) := by
  refine .enter Tryd.func45 rfl rfl ?_
  have hn := hW.hn
  have hnt := hW.hnt
  have hr := hW.rowOk hm
  have hlt : ∀ l ∈ e.rws, l.length + 2 < 90000 := fun l hl => by have := hW.lw l hl; omega
  have htl : e.trs.length < 600 := by have := hW.lt; omega
  have htm : -1000000000000 ≤ e.time ∧ e.time ≤ 1000000000000 := by have := hW.htm; omega
  have hpay := hW.hpay
  have hdc : ∀ p ∈ e.trs, band p.flags 2 ≠ 0 → posN p.debit e.ids ≠ none ∧ posN p.credit e.ids ≠ none := fun p hp h => hW.hdc p hp (.inl h)
  have hla := hr.la
  have hil : e.ids.length = e.acc.length := by simp [Eng.ids]
  refine .seq ?_
  refine .reg ?_
  refine .bx fun b3 => ?_
  refine .as ?_
  refine .go ?_
  refine .seq ?_
  refine .seq ?_
  refine .reg ?_
  rw [vc_agg]
  refine .ld (v := .agg (encT t).toArray) ?_
  refine .cl (ruleT_tr t κ _) ?_
  have key := makeTransfer_eq e t
  refine .as ?_
  refine .go ?_
  refine .seq ?_
  refine .reg ?_
  refine .mv ?_
  refine .ne ?_
  refine .go ?_
  refine .cond rfl (fun hc => ?_) (fun hc => ?_)
  · refine .seq ?_
    refine .reg ?_
    refine .mv ?_
    refine .as ?_
    refine .go ?_
    refine .r1 fun w hs => ?_
    have k2 := key.trans (if_pos (of_decide_eq_true hc))
    rw [k2]
    exact ⟨i, hi, rfl, hs.rows⟩
  have hev : -1000000000000 ≤ bclr t.flags 1 ∧ bclr t.flags 1 ≤ 1000000000000 := by have h := ruleT_flags (t := t) (by have := of_decide_eq_false hc; omega); have := bclr1 h.1 h.2; omega
  have key := key.trans (if_neg (of_decide_eq_false hc))
  refine .go ?_
  refine .seq ?_
  refine .seq ?_
  refine .reg ?_
  refine .mv ?_
  refine .fa ?_
  refine .ld (v := .agg (nm t.id).toArray) ?_
  refine .cl (Tr.ef1 (trans_tr b e hnt (by omega) i t.id κ _)) ?_
  cases hp : e.transfer t.id with
  | some old =>
    rw [hp] at key
    have k2 : e.makeTransfer t = (e, againT t old) := key
    rw [k2]
    refine .mv ?_
    refine .ex ?_
    refine .ex ?_
    refine .al fun b6 => ?_
    refine .stw (v := .agg (encT old).toArray) ?_
    rw [vc_agg]
    refine .as ?_
    refine .go ?_
    refine .seq ?_
    refine .reg ?_
    refine .mv ?_
    refine .go ?_
    refine .cond rfl (fun hc => ?_) (fun hc => by cases hc)
    refine .seq ?_
    refine .reg ?_
    refine .ld (v := .agg (encT t).toArray) ?_
    refine .ld (v := .agg (encT old).toArray) ?_
    refine .cl (againT_tr t old κ _) ?_
    refine .as ?_
    refine .go ?_
    refine .r1 fun w hs => ?_
    exact ⟨i, hi, rfl, hs.rows.rows⟩
  | none =>
  rw [hp] at key
  simp only at key
  refine .mv ?_
  refine .ex ?_
  refine .ex ?_
  refine .al fun b6 => ?_
  refine .stw (v := .agg (encT zT).toArray) ?_
  refine .pm 2 [1] ?_
  refine .as ?_
  refine .go ?_
  refine .seq ?_
  refine .reg ?_
  refine .mv ?_
  refine .go ?_
  refine .cond rfl (fun hc => by cases hc) (fun hc => ?_)
  refine .go ?_
  refine .seq ?_
  refine .seq ?_
  refine .reg ?_
  refine .mv ?_
  refine .nc ?_
  refine .fa ?_
  refine .fa ?_
  refine .ld ?_
  refine .ln ?_
  refine .eq ?_
  refine .go ?_
  refine .cond rfl (fun hc => ?_) (fun hc => ?_)
  · refine .seq ?_
    refine .reg ?_
    refine .as ?_
    refine .go ?_
    refine .r1 fun w hs => ?_
    have h256 : e.trs.length = 256 := by have := of_decide_eq_true hc; omega
    have k2 := key.trans (if_pos h256)
    rw [k2]
    exact ⟨i, hi, rfl, hs.rows⟩
  have h256 : ¬ e.trs.length = 256 := by have := of_decide_eq_false hc; omega
  have key := key.trans (if_neg h256)
  refine .go ?_
  refine .seq ?_
  refine .seq ?_
  refine .reg ?_
  refine .fa ?_
  refine .ld (v := .agg (nm t.pid).toArray) ?_
  refine .bz ?_
  refine .nen t.pid 0 ?_
  refine .go ?_
  refine .cond rfl (fun hc => ?_) (fun hc => ?_)
  · have h1 : t.pid ≠ 0 := by simpa using hc
    have k2 := key.trans (if_pos h1)
    refine .seq ?_
    refine .reg ?_
    refine .mv ?_
    refine .ld (v := .agg (encT t).toArray) ?_
    refine .sat (cs' := engO b e i cs) (fun w hs => hs.rows) ?_
    refine .ce (second_tr b e i hi t hn hnt hr hlt htl htm hev hpay hdc κ hκ cs) (fun i' hi' => ?_)
    refine .as ?_
    refine .go ?_
    refine .r1 fun w hs => ?_
    rw [k2]
    exact ⟨i', hi', rfl, hs⟩
  have h1 : ¬ t.pid ≠ 0 := by simpa using hc
  have key := key.trans (if_neg h1)
  refine .go ?_
  have gd := fun κ cs => getB_tr i.bA (idxOf e.ids) (idx_srt hn) (by rw [idx_len hn, hil]; omega) t.debit κ cs
  have gc := fun κ cs => getB_tr i.bA (idxOf e.ids) (idx_srt hn) (by rw [idx_len hn, hil]; omega) t.credit κ cs
  rw [idx_get hn] at gd gc
  refine .seq ?_
  refine .regD [(b, 0, [.slice i.pa e.acc.length i.ca, .slice i.pt e.trs.length i.ct, .slice i.pr i.lb.length i.cr, ptrV i.bA, ptrV i.bI, .int .i64 e.time, .int .i64 e.now]), (b3, 0, encT t)] [] ?_
  refine .mv 0 ?_
  refine .nc 1 ?_
  refine .fa 2 ?_
  refine .fa 3 ?_
  refine .ld 4 ?_
  refine .fa 5 ?_
  refine .ld 6 (v := .agg (nm t.debit).toArray) ?_
  refine .pm 7 [5, 0, 1, 2, 3, 4, 6] ?_
  refine .cl 7 (gd κ _) ?_
  refine .pm 7 [1, 2, 3, 4, 5, 0, 6] ?_
  cases hd : posN t.debit e.ids with
  | none =>
    rw [hd] at key
    simp only [Option.map_none, Option.getD_none, Option.isSome_none]
    refine .mv 8 ?_
    refine .ex 9 ?_
    refine .ex 10 ?_
    refine .as 11 ?_
    refine .as 12 ?_
    refine .go ?_
    refine .seq ?_
    refine .seq ?_
    refine .reg ?_
    refine .mv ?_
    refine .nt ?_
    refine .go ?_
    refine .cond rfl (fun hc => ?_) (fun hc => by cases hc)
    refine .seq ?_
    refine .reg ?_
    refine .as ?_
    refine .go ?_
    refine .r1 fun w hs => ?_
    have k2 : e.makeTransfer t = (e, 15) := key.trans (rfl)
    rw [k2]
    exact ⟨i, hi, rfl, hs.rows⟩
  | some d =>
  rw [hd] at key
  have hdl : d < e.acc.length := by obtain ⟨h, _⟩ := posN_some hd; omega
  simp only [Option.map_some, Option.getD_some, Option.isSome_some]
  refine .mv 8 ?_
  refine .ex 9 ?_
  refine .ex 10 ?_
  refine .as 11 ?_
  refine .as 12 ?_
  refine .go ?_
  refine .seq ?_
  refine .seq ?_
  refine .reg ?_
  refine .mv ?_
  refine .nt ?_
  refine .go ?_
  refine .cond rfl (fun hc => by cases hc) (fun hc => ?_)
  refine .go ?_
  refine .seq ?_
  refine .regD [(b, 0, [.slice i.pa e.acc.length i.ca, .slice i.pt e.trs.length i.ct, .slice i.pr i.lb.length i.cr, ptrV i.bA, ptrV i.bI, .int .i64 e.time, .int .i64 e.now]), (b3, 0, encT t)] [] ?_
  refine .mv 0 ?_
  refine .nc 1 ?_
  refine .fa 2 ?_
  refine .fa 3 ?_
  refine .ld 4 ?_
  refine .fa 5 ?_
  refine .ld 6 (v := .agg (nm t.credit).toArray) ?_
  refine .pm 7 [5, 0, 1, 2, 3, 4, 6] ?_
  refine .cl 7 (gc κ _) ?_
  refine .pm 7 [1, 2, 3, 4, 5, 0, 6] ?_
  cases hc' : posN t.credit e.ids with
  | none =>
    rw [hc'] at key
    simp only [Option.map_none, Option.getD_none, Option.isSome_none]
    refine .mv 8 ?_
    refine .ex 9 ?_
    refine .ex 10 ?_
    refine .as 11 ?_
    refine .as 12 ?_
    refine .go ?_
    refine .seq ?_
    refine .block ?_
    refine .seq ?_
    refine .reg ?_
    refine .mv ?_
    refine .nt ?_
    refine .mv ?_
    repeat refine .skip ?_
    first | refine .pt ?_ | refine .pf ?_
    refine .as ?_
    refine .go ?_
    refine .cond rfl (fun hc => ?_) (fun hc => by cases hc)
    refine .seq ?_
    refine .reg ?_
    refine .as ?_
    refine .go ?_
    refine .r1 fun w hs => ?_
    have k2 : e.makeTransfer t = (e, 16) := key.trans (rfl)
    rw [k2]
    exact ⟨i, hi, rfl, hs.rows⟩
  | some c =>
  rw [hc'] at key
  have hcl : c < e.acc.length := by obtain ⟨h, _⟩ := posN_some hc'; omega
  simp only [Option.map_some, Option.getD_some, Option.isSome_some]
  have key : e.makeTransfer t = mkT e t d c := key
  unfold mkT at key
  rw [getD_at hdl, getD_at hcl] at key
  refine .mv 8 ?_
  refine .ex 9 ?_
  refine .ex 10 ?_
  refine .as 11 ?_
  refine .as 12 ?_
  refine .go ?_
  refine .seq ?_
  refine .block ?_
  refine .seq ?_
  refine .reg ?_
  refine .mv ?_
  refine .nt ?_
  refine .mv ?_
  refine .mv ?_
  refine .mv ?_
  refine .eq ?_
  first | refine .pt ?_ | refine .pf ?_
  refine .as ?_
  refine .go ?_
  refine .cond rfl (fun hc => ?_) (fun hc => ?_)
  · have hcd : c = d := by have := of_decide_eq_true hc; omega
    refine .seq ?_
    refine .reg ?_
    refine .as ?_
    refine .go ?_
    refine .r1 fun w hs => ?_
    have k2 : e.makeTransfer t = (e, 16) := key.trans (if_pos hcd)
    rw [k2]
    exact ⟨i, hi, rfl, hs.rows⟩
  have hcd : ¬ c = d := by have := of_decide_eq_false hc; omega
  have key := key.trans (if_neg hcd)
  refine .slp (p := i.pa) (cap := i.ca) (sz := 46) (n0 := e.acc.length) (by omega) (fun ba hba _ => ?_)
  rw [hba]
  have hgd : getV false (e.acc.flatMap encA) (((d : Nat) : Int).toNat * 46 + 2) 1 = some (.int .i64 e.acc[d].ledger) := flat_get encA 46 encA_len e.acc d 2 1 false _ hdl rfl
  have hgc : getV false (e.acc.flatMap encA) (((c : Nat) : Int).toNat * 46 + 2) 1 = some (.int .i64 e.acc[c].ledger) := flat_get encA 46 encA_len e.acc c 2 1 false _ hcl rfl
  refine .jn (ι := Unit) (fun _ => [(0, .pointer (some ⟨b, 0, none⟩)), (3, .pointer (some ⟨b3, 0, none⟩)), (4, .int .i64 0), (8, .int .i64 d), (10, .int .i64 c), (73, .bool (decide (e.acc[d].ledger ≠ t.ledger ∨ e.acc[c].ledger ≠ t.ledger)))]) (fun _ => pts b3 (43, encT t) :: engO b e { i with pa := some ⟨ba, 0, none⟩ } cs) (fun _ => True) ?_ fun _ _ => ?_
  · refine .regD [(b, 0, [.slice (some ⟨ba, 0, none⟩) e.acc.length i.ca, .slice i.pt e.trs.length i.ct, .slice i.pr i.lb.length i.cr, ptrV i.bA, ptrV i.bI, .int .i64 e.time, .int .i64 e.now]), (b3, 0, encT t), (ba, 0, e.acc.flatMap encA)] [] ?_
    refine .mv 0 ?_
    refine .nc 1 ?_
    refine .fa 2 ?_
    refine .fa 3 ?_
    refine .ld 4 ?_
    refine .mv 5 ?_
    refine .ix 6 ?_
    refine .fa 7 ?_
    rw [Nat.add_assoc 0 (((d : Nat) : Int).toNat * 46) 2]
    refine .lx 8 hgd ?_
    refine .fa 9 ?_
    refine .ld 10 (v := .int .i64 t.ledger) ?_
    refine .ne 11 ?_
    refine .mv 12 ?_
    by_cases h2 : e.acc[d].ledger ≠ t.ledger
    · rw [decide_eq_true h2, decide_eq_true (.inl h2)]
      refine .skip 13 ?_
      refine .skip 14 ?_
      refine .skip 15 ?_
      refine .skip 16 ?_
      refine .skip 17 ?_
      refine .skip 18 ?_
      refine .skip 19 ?_
      refine .skip 20 ?_
      refine .skip 21 ?_
      refine .skip 22 ?_
      refine .skip 23 ?_
      refine .skip 24 ?_
      refine .pt 25 ?_
      refine .as 26 ?_
      exact .nil fun aa w hf hs => ⟨(), trivial, hf.to (by repeat (first | exact trivial | refine ⟨rfl, ?_⟩)), hs⟩
    · rw [decide_eq_false h2]
      refine .mv 13 ?_
      refine .nc 14 ?_
      refine .fa 15 ?_
      refine .fa 16 ?_
      refine .ld 17 ?_
      refine .mv 18 ?_
      refine .ix 19 ?_
      refine .fa 20 ?_
      rw [Nat.add_assoc 0 (((c : Nat) : Int).toNat * 46) 2]
      refine .lx 21 hgc ?_
      refine .fa 22 ?_
      refine .ld 23 (v := .int .i64 t.ledger) ?_
      refine .ne 24 ?_
      refine .pf 25 ?_
      refine .as 26 ?_
      rw [show decide (e.acc[d].ledger ≠ t.ledger ∨ e.acc[c].ledger ≠ t.ledger) = decide (e.acc[c].ledger ≠ t.ledger) from by rw [decide_eq_decide]; exact ⟨fun h => h.resolve_left h2, .inr⟩]
      exact .nil fun aa w hf hs => ⟨(), trivial, hf.to (by repeat (first | exact trivial | refine ⟨rfl, ?_⟩)), hs⟩
  refine .cond rfl (fun hc => ?_) (fun hc => ?_)
  · have hc := of_decide_eq_true hc
    refine .seq ?_
    refine .reg ?_
    refine .as ?_
    refine .go ?_
    refine .r1 fun w hs => ?_
    have k2 : e.makeTransfer t = (e, 17) := key.trans (if_pos hc)
    rw [k2]
    exact ⟨{ i with pa := some ⟨ba, 0, none⟩ }, hi, rfl, hs.rows⟩
  have key := key.trans (if_neg (of_decide_eq_false hc))
  have hA : ∀ (cs : List HProp) [RdAt ba cs 0 (e.acc.flatMap encA)], RdAt ba cs (0 + ((d : Nat) : Int).toNat * 46) (encA e.acc[d]) := fun cs h => h.sub encA_len d hdl
  refine .seq ?_
  refine .reg ?_
  refine .mv ?_
  refine .nc ?_
  refine .fa ?_
  refine .fa ?_
  refine .ld ?_
  refine .mv ?_
  refine .ix ?_
  refine .fa ?_
  refine .lx (show getV false (encA e.acc[d]) 3 1 = some (.int .i64 e.acc[d].flags) from rfl) ?_
  refine .an ?_
  refine .ne ?_
  refine .as ?_
  refine .go ?_
  clear hA
  refine .cond rfl (fun hc => ?_) (fun hc => ?_)
  · have hc := of_decide_eq_true hc
    refine .seq ?_
    refine .reg ?_
    refine .as ?_
    refine .go ?_
    refine .r1 fun w hs => ?_
    have k2 : e.makeTransfer t = (e, 26) := key.trans (if_pos hc)
    rw [k2]
    exact ⟨{ i with pa := some ⟨ba, 0, none⟩ }, hi, rfl, hs.rows⟩
  have key := key.trans (if_neg (of_decide_eq_false hc))
  have hA : ∀ (cs : List HProp) [RdAt ba cs 0 (e.acc.flatMap encA)], RdAt ba cs (0 + ((c : Nat) : Int).toNat * 46) (encA e.acc[c]) := fun cs h => h.sub encA_len c hcl
  refine .seq ?_
  refine .reg ?_
  refine .mv ?_
  refine .nc ?_
  refine .fa ?_
  refine .fa ?_
  refine .ld ?_
  refine .mv ?_
  refine .ix ?_
  refine .fa ?_
  refine .lx (show getV false (encA e.acc[c]) 3 1 = some (.int .i64 e.acc[c].flags) from rfl) ?_
  refine .an ?_
  refine .ne ?_
  refine .as ?_
  refine .go ?_
  clear hA
  refine .cond rfl (fun hc => ?_) (fun hc => ?_)
  · have hc := of_decide_eq_true hc
    refine .seq ?_
    refine .reg ?_
    refine .as ?_
    refine .go ?_
    refine .r1 fun w hs => ?_
    have k2 : e.makeTransfer t = (e, 27) := key.trans (if_pos hc)
    rw [k2]
    exact ⟨{ i with pa := some ⟨ba, 0, none⟩ }, hi, rfl, hs.rows⟩
  have key := key.trans (if_neg (of_decide_eq_false hc))
  refine .go ?_
  refine .seq ?_
  refine .reg ?_
  refine .mv ?_
  refine .ld (v := .agg (encT t).toArray) ?_
  refine .mv ?_
  refine .mv ?_
  refine .sat (cs' := engO b e { i with pa := some ⟨ba, 0, none⟩ } cs) (fun w hs => hs.rows) ?_
  refine .ce (first_tr b e { i with pa := some ⟨ba, 0, none⟩ } hi t d c hdl hcl hr hlt hnt htl htm hev κ hκ cs) (fun i' hi' => ?_)
  refine .as ?_
  refine .go ?_
  refine .r1 fun w hs => ?_
  rw [key]
  exact ⟨i', hi', rfl, hs⟩
end Go.Proofs.YtpcechnalfaajaaDoor

/- engine: tick. -/
namespace Go.Proofs.YtpcechnalfaajaaDoor
open Go Go.Proofs

set_option maxHeartbeats 2000000 in
theorem tick_tr (b : Nat) (e : Eng) (i : EngI) (hi : i.lb.length = e.rws.length) (now : Int) {m : Nat} (hm : m + 600 < 80000) (hW : EngW m e) (hnow : e.now ≤ now ∧ now ≤ 9223372036854775807) (κ : Kap) (hκ : Laid κ) (cs : List HProp) :
    Tr Tryd.prog 46 [.pointer (some ⟨b, 0, none⟩), .int .i64 now] κ (engO b e i cs) (.tuple #[]) (engO b (e.tick now) i cs) := by
  refine .enter Tryd.func46 rfl rfl ?_
  refine .seq ?_
  refine .reg ?_
  refine .mv ?_
  refine .mv ?_
  refine .nc ?_
  refine .fa ?_
  refine .st ?_
  refine .go ?_
  refine .seq ?_
  refine .reg ?_
  refine .mv ?_
  refine .nc ?_
  refine .fa ?_
  refine .fa ?_
  refine .ld ?_
  refine .ln ?_
  refine .mv ?_
  refine .go ?_
  refine .block ?_
  have hlt := hW.lt
  refine .lp (fun k : Nat => [(0, .pointer (some ⟨b, 0, none⟩)), (1, .int .i64 now), (20, .int .i64 e.trs.length), (21, .int .i64 k)])
    (fun k => engO b ((List.range k).foldl Eng.expire1 { e with now := now }) i cs) (fun k => k ≤ e.trs.length) (fun k => e.trs.length - k) 0 (by omega) (by repeat (first | exact trivial | refine ⟨rfl, ?_⟩)) rfl fun k hk => ?_
  refine .seq ?_
  refine .reg ?_
  refine .lt ?_
  refine .go ?_
  refine .seq ?_
  refine .cond rfl (fun hc => ?_) (fun hc => ?_)   -- t22
  · have hkl : k < e.trs.length := by have := of_decide_eq_true hc; omega
    obtain ⟨hE, hA⟩ := tick_w hW now hnow k
    have hsucc : (List.range (k + 1)).foldl Eng.expire1 { e with now := now } = ((List.range k).foldl Eng.expire1 { e with now := now }).expire1 k := by rw [List.range_succ, List.foldl_append]; rfl
    have hAl := hA.len
    have hAa := hA.acc
    have hAn : _ = now := hA.now
    have hiE : i.lb.length = ((List.range k).foldl Eng.expire1 { e with now := now }).rws.length := by rw [hE.lr, hAa, hi, hW.lr]
    generalize (List.range k).foldl Eng.expire1 { e with now := now } = E at *
    have hk1 : k < E.trs.length := by rw [hAl]; exact hkl
    refine .go ?_
    refine .slp (p := i.pt) (cap := i.ct) (sz := 16) (n0 := E.trs.length) (by omega) (fun bt hbt _ => ?_)
    obtain ⟨pa, ca, pt, ct, pr, cr, bA, bI, lb⟩ := i
    simp only at hbt hi hiE
    subst hbt
    have hpk : E.trs.getD k zT = E.trs[k] := getD_at hk1
    have hpm : E.trs[k] ∈ E.trs := List.getElem_mem hk1
    have hT : ∀ (cs : List HProp) [RdAt bt cs 0 (E.trs.flatMap encT)], RdAt bt cs (0 + ((k : Nat) : Int).toNat * 16) (encT E.trs[k]) := fun cs h => h.sub encT_len k hk1
    generalize hpe : E.trs[k] = p at *
    have htick := hE.htick p hpm
    rw [hAn] at htick
    refine .seq ?_
    refine .block ?_
    refine .seq ?_
    refine .reg ?_
    refine .mv ?_
    refine .as ?_
    refine .go ?_
    refine .seq ?_
    refine .reg ?_
    refine .mv ?_
    refine .nc ?_
    refine .fa ?_
    refine .fa ?_
    refine .ld ?_
    refine .mv ?_
    refine .ix ?_
    refine .as ?_
    refine .go ?_
    refine .seq ?_
    refine .jn (ι := Unit) (fun _ => [(0, .pointer (some ⟨b, 0, none⟩)), (1, .int .i64 now), (20, .int .i64 e.trs.length), (21, .int .i64 k), (5, .pointer (some ⟨bt, 0 + ((k : Nat) : Int).toNat * 16, none⟩)), (55, .bool (decide (p.state ≠ 1 ∨ p.timeout ≤ 0 ∨ now - p.tick < p.timeout)))])
      (fun _ => engO b E ⟨pa, ca, some ⟨bt, 0, none⟩, ct, pr, cr, bA, bI, lb⟩ cs) (fun _ => True) ?_ fun _ _ => ?_
    · refine .regD [(bt, 0 + ((k : Nat) : Int).toNat * 16, encT p)] [] ?_
      refine .mv 0 ?_
      refine .nc 1 ?_
      refine .fa 2 ?_
      refine .lx 3 (show getV false (encT p) 15 1 = some (.int .i64 p.state) from rfl) ?_
      refine .ne 4 ?_
      refine .mv 5 ?_
      by_cases h1 : p.state ≠ 1
      · rw [decide_eq_true h1, decide_eq_true (.inl h1)]
        refine .skip 6 ?_
        refine .skip 7 ?_
        refine .skip 8 ?_
        refine .skip 9 ?_
        refine .skip 10 ?_
        refine .pt 11 ?_
        refine .mv 12 ?_
        refine .skip 13 ?_
        refine .skip 14 ?_
        refine .skip 15 ?_
        refine .skip 16 ?_
        refine .skip 17 ?_
        refine .skip 18 ?_
        refine .skip 19 ?_
        refine .skip 20 ?_
        refine .skip 21 ?_
        refine .skip 22 ?_
        refine .skip 23 ?_
        refine .pt 24 ?_
        exact .nil fun aa w hf hs => ⟨(), trivial, hf.to (by repeat (first | exact trivial | refine ⟨rfl, ?_⟩)), hs⟩
      · rw [decide_eq_false h1]
        refine .mv 6 ?_
        refine .nc 7 ?_
        refine .fa 8 ?_
        refine .lx 9 (show getV false (encT p) 10 1 = some (.int .i64 p.timeout) from rfl) ?_
        refine .le 10 ?_
        refine .pf 11 ?_
        refine .mv 12 ?_
        by_cases h2 : p.timeout ≤ 0
        · rw [decide_eq_true h2, decide_eq_true (.inr (.inl h2))]
          refine .skip 13 ?_
          refine .skip 14 ?_
          refine .skip 15 ?_
          refine .skip 16 ?_
          refine .skip 17 ?_
          refine .skip 18 ?_
          refine .skip 19 ?_
          refine .skip 20 ?_
          refine .skip 21 ?_
          refine .skip 22 ?_
          refine .skip 23 ?_
          refine .pt 24 ?_
          exact .nil fun aa w hf hs => ⟨(), trivial, hf.to (by repeat (first | exact trivial | refine ⟨rfl, ?_⟩)), hs⟩
        · rw [decide_eq_false h2]
          refine .mv 13 ?_
          refine .nc 14 ?_
          refine .fa 15 ?_
          refine .lx 16 (show getV false (encT p) 10 1 = some (.int .i64 p.timeout) from rfl) ?_
          refine .mv 17 ?_
          refine .mv 18 ?_
          refine .nc 19 ?_
          refine .fa 20 ?_
          refine .lx 21 (show getV false (encT p) 14 1 = some (.int .i64 p.tick) from rfl) ?_
          refine .sb 22 ?_
          refine .gt 23 ?_
          refine .pf 24 ?_
          rw [show decide (p.state ≠ 1 ∨ p.timeout ≤ 0 ∨ now - p.tick < p.timeout) = decide (now - p.tick < p.timeout) from by rw [decide_eq_decide]; exact ⟨fun h => (h.resolve_left h1).resolve_left h2, fun h => .inr (.inr h)⟩]
          exact .nil fun aa w hf hs => ⟨(), trivial, hf.to (by repeat (first | exact trivial | refine ⟨rfl, ?_⟩)), hs⟩
    refine .cond rfl (fun hc => ?_) (fun hc => ?_)
    · have hc := of_decide_eq_true hc
      refine .xgo ?_
      refine .reg ?_
      refine .ad ?_
      refine .mv ?_
      refine .nil fun aa w hf hs => ⟨k + 1, by omega, by omega, hf.to (by repeat (first | exact trivial | refine ⟨rfl, ?_⟩)), ?_⟩
      rw [hsucc]
      have he : E.expire1 k = E := by unfold Eng.expire1; rw [hpk]; exact if_pos (by rw [hAn]; exact hc)
      rw [he]
      exact hs
    · have hc := of_decide_eq_false hc
      have hst : p.state = 1 := Classical.byContradiction fun h => hc (.inl h)
      obtain ⟨hpd, hpc⟩ := hE.hdc p hpm (.inr hst)
      obtain ⟨d, hd⟩ := Option.ne_none_iff_exists'.1 hpd
      obtain ⟨c, hc'⟩ := Option.ne_none_iff_exists'.1 hpc
      have hdl : d < E.acc.length := by obtain ⟨h, _⟩ := posN_some hd; simpa [Eng.ids] using h
      have hcl : c < E.acc.length := by obtain ⟨h, _⟩ := posN_some hc'; simpa [Eng.ids] using h
      have hal : E.ids.length = E.acc.length := by simp [Eng.ids]
      have hla := hE.la
      have hlt2 := hE.lt
      have gd := fun κ cs => getB_tr bA (idxOf E.ids) (idx_srt hE.hn) (by rw [idx_len hE.hn, hal]; omega) p.debit κ cs
      have gc := fun κ cs => getB_tr bA (idxOf E.ids) (idx_srt hE.hn) (by rw [idx_len hE.hn, hal]; omega) p.credit κ cs
      rw [idx_get hE.hn, hd] at gd
      rw [idx_get hE.hn, hc'] at gc
      simp only [Option.map_some, Option.getD_some, Option.isSome_some] at gd gc
      have hmE : m + 2 * k < 80000 := by omega
      have hrE : RowOk E := hE.rowOk hmE
      refine .go ?_
      refine .seq ?_
      refine .reg ?_
      refine .mv ?_
      refine .mv ?_
      refine .nc ?_
      refine .fa ?_
      refine .lx (show getV true (encT p) 0 2 = some (.agg (nm p.id).toArray) from rfl) ?_
      refine .cl (amount_tr b E hE.hn hE.hnt hrE (by omega) ⟨pa, ca, some ⟨bt, 0, none⟩, ct, pr, cr, bA, bI, lb⟩ hiE p.id (hE.hpay p.id) κ _) ?_
      have key : E.expire1 k = (let e2 := (E.release p (E.amount p.id) d c true).setState k 4
        ({ e2 with time := e2.time + 1 } : Eng).row p.id (-1) (E.amount p.id) [d, c]) := by
        unfold Eng.expire1
        rw [hpk]
        simp only
        rw [if_neg (by rw [hAn]; exact hc), hd, hc']
        rfl
      generalize E.amount p.id = held at *
      refine .al fun b6 => ?_
      refine .stw ?_
      refine .go ?_
      rw [vc_agg]
      refine .seq ?_
      refine .regD [(b, 0, [.slice pa E.acc.length ca, .slice (some ⟨bt, 0, none⟩) E.trs.length ct, .slice pr lb.length cr, ptrV bA, ptrV bI, .int .i64 E.time, .int .i64 E.now]), (bt, 0 + ((k : Nat) : Int).toNat * 16, encT p)] [] ?_
      refine .mv 0 ?_
      refine .nc 1 ?_
      refine .fa 2 ?_
      refine .fa 3 ?_
      refine .ld 4 ?_
      refine .mv 5 ?_
      refine .nc 6 ?_
      refine .fa 7 ?_
      refine .lx 8 (show getV true (encT p) 2 2 = some (.agg (nm p.debit).toArray) from rfl) ?_
      refine .pm 7 [5, 0, 1, 2, 3, 4, 6] ?_
      refine .cl 9 (gd κ _) ?_
      refine .pm 7 [1, 2, 3, 4, 5, 0, 6] ?_
      refine .mv 10 ?_
      refine .ex 11 ?_
      refine .ex 12 ?_
      refine .as 13 ?_
      refine .as 14 ?_
      refine .go ?_
      refine .seq ?_
      refine .regD [(b, 0, [.slice pa E.acc.length ca, .slice (some ⟨bt, 0, none⟩) E.trs.length ct, .slice pr lb.length cr, ptrV bA, ptrV bI, .int .i64 E.time, .int .i64 E.now]), (bt, 0 + ((k : Nat) : Int).toNat * 16, encT p)] [] ?_
      refine .mv 0 ?_
      refine .nc 1 ?_
      refine .fa 2 ?_
      refine .fa 3 ?_
      refine .ld 4 ?_
      refine .mv 5 ?_
      refine .nc 6 ?_
      refine .fa 7 ?_
      refine .lx 8 (show getV true (encT p) 4 2 = some (.agg (nm p.credit).toArray) from rfl) ?_
      refine .pm 7 [5, 0, 1, 2, 3, 4, 6] ?_
      refine .cl 9 (gc κ _) ?_
      refine .pm 7 [1, 2, 3, 4, 5, 0, 6] ?_
      refine .mv 10 ?_
      refine .ex 11 ?_
      refine .ex 12 ?_
      refine .as 13 ?_
      refine .as 14 ?_
      refine .go ?_
      refine .seq ?_
      refine .reg ?_
      refine .mv ?_
      refine .mv ?_
      refine .ldw ?_
      refine .mv ?_
      refine .mv ?_
      have hrel := release_tr b E ⟨pa, ca, some ⟨bt, 0, none⟩, ct, pr, cr, bA, bI, lb⟩ hiE bt k rfl hk1 held d c hdl hcl true
      rw [hpe] at hrel
      refine .cl (Tr.ef1 (hrel κ _)) ?_
      obtain ⟨A1, e1, l1, m1⟩ := Eng.release_form E p held d c true
      have hp4 : putN (E.trs.flatMap encT) (0 + ((k : Nat) : Int).toNat * 16 + 15) [.int .i64 4] = some ((E.trs.set k { p with state := 4 }).flatMap encT) := by
        rw [Nat.zero_add]
        exact flat_put (j := k) encT_len hk1 (by rw [hpe]; rfl)
      have hl4 : (E.trs.set k { p with state := 4 }).length = E.trs.length := by simp
      have hm4 : (E.trs.set k { p with state := 4 }).map (·.id) = E.trs.map (·.id) := tids_set (by rw [hpk])
      have hg4 : ∀ h, (E.trs.set k { p with state := 4 })[k]'h = { p with state := 4 } := fun h => by simp
      have key : E.expire1 k = (⟨A1, E.trs.set k { p with state := 4 }, E.rws, E.time + 1, E.now⟩ : Eng).row p.id (-1) held [d, c] := by
        rw [key, e1, ← hpk]; rfl
      rw [e1]
      refine .sat (cs' := pts b6 (24, nm held) :: pts b (92, [.slice pa A1.length ca, .slice (some ⟨bt, 0, none⟩) E.trs.length ct, .slice pr lb.length cr, ptrV bA, ptrV bI, .int .i64 E.time, .int .i64 E.now]) ::
    sl 46 (.slice pa A1.length ca) (37, A1.flatMap encA) :: sl 16 (.slice (some ⟨bt, 0, none⟩) E.trs.length ct) (43, E.trs.flatMap encT) :: sl 1 (.slice pr lb.length cr) (72, lb.map ptrV) ::
    ixB bA (idxOf (A1.map (·.id))) :: ixB bI (idxOf (E.trs.map (·.id))) :: (rowsP E.rws lb ++ cs)) (fun w hs => hs) ?_
      have htm := hE.htm
      refine .go ?_
      refine .seq ?_
      refine .reg ?_
      refine .mv ?_
      refine .nc ?_
      refine .fa ?_
      refine .sx hp4 ?_
      clear hT
      generalize E.trs.set k { p with state := 4 } = T1 at *
      have hk4 : k < T1.length := by omega
      have hT : ∀ (cs : List HProp) [RdAt bt cs 0 (T1.flatMap encT)], RdAt bt cs (0 + ((k : Nat) : Int).toNat * 16) (encT T1[k]) := fun cs h => h.sub encT_len k hk4
      rw [hg4 hk4] at hT
      refine .go ?_
      refine .seq ?_
      refine .reg ?_
      refine .mv ?_
      refine .nc ?_
      refine .fa ?_
      refine .ld ?_
      refine .ad ?_
      refine .nc ?_
      refine .fa ?_
      refine .st ?_
      refine .go ?_
      refine .regD [(b6, 0, nm held), (bt, 0 + ((k : Nat) : Int).toNat * 16, encT { p with state := 4 })] [] ?_
      refine .mv 0 ?_
      refine .mv 1 ?_
      refine .nc 2 ?_
      refine .fa 3 ?_
      refine .lx 4 (show getV true (encT { p with state := 4 }) 0 2 = some (.agg (nm p.id).toArray) from rfl) ?_
      refine .ldw 5 ?_
      refine .mv 6 ?_
      refine .mv 7 ?_
      refine .bs 8 fun b112 => ?_
      obtain ⟨A2, R2, hrow⟩ : ∃ A2 R2, (⟨A1, T1, E.rws, E.time + 1, E.now⟩ : Eng).row p.id (-1) held [d, c] = ⟨A2, T1, R2, E.time + 1, E.now⟩ := ⟨_, _, rfl⟩
      have hw0 : ∀ l ∈ E.rws, l.length + 2 < 90000 := fun l hl => by have := hE.lw l hl; omega
      have hr2 : RowOk ⟨A1, T1, E.rws, E.time + 1, E.now⟩ := ⟨by show A1.length < 700; omega, by show E.rws.length = A1.length; rw [l1]; exact hE.lr, fun l hl => by have := hw0 l hl; show l.length < 90000; omega⟩
      have hrw := erow_tr b p.id (-1) (by omega) held [d, c] (by simp) κ hκ ⟨pa, ca, some ⟨bt, 0, none⟩, ct, pr, cr, bA, bI, lb⟩ b112 (pts b6 (24, nm held) :: cs) ⟨A1, T1, E.rws, E.time + 1, E.now⟩ hiE (hr2.two hw0 p.id (-1) held d c)
        (fun j hj => by
          show j < A1.length
          rw [l1]
          rcases List.mem_cons.1 hj with rfl | hj
          · exact hdl
          · rw [List.mem_singleton.1 hj]; exact hcl)
      rw [hrow] at hrw
      refine .cl (v := .tuple #[]) (cs' := pts b6 (24, nm held) :: pts b112 (3, cells .i64 ([d, c].map fun (k : Nat) => (k : Int))) :: pts b (92, [.slice pa A2.length ca, .slice (some ⟨bt, 0, none⟩) T1.length ct, .slice pr lb.length cr, ptrV bA, ptrV bI, .int .i64 (E.time + 1), .int .i64 E.now]) ::
    sl 46 (.slice pa A2.length ca) (37, A2.flatMap encA) :: sl 16 (.slice (some ⟨bt, 0, none⟩) T1.length ct) (43, T1.flatMap encT) :: sl 1 (.slice pr lb.length cr) (72, lb.map ptrV) ::
    ixB bA (idxOf (A2.map (·.id))) :: ixB bI (idxOf (T1.map (·.id))) :: (rowsP R2 lb ++ cs)) 9 (fun w hs => (hrw w ?_).mono fun _ _ h => ⟨h.1, ?_⟩) ?_
      · have h3 : Sat κ w ([pts b112 (3, cells .i64 ([d, c].map fun (k : Nat) => (k : Int))), pts b6 (24, nm held)] ++ engO b ⟨A1, T1, E.rws, E.time + 1, E.now⟩ ⟨pa, ca, some ⟨bt, 0, none⟩, ct, pr, cr, bA, bI, lb⟩ cs) := by
          show Sat κ w (pts b112 (3, cells .i64 ([d, c].map fun (k : Nat) => (k : Int))) :: pts b6 (24, nm held) :: pts b (92, [.slice pa A1.length ca, .slice (some ⟨bt, 0, none⟩) T1.length ct, .slice pr lb.length cr, ptrV bA, ptrV bI, .int .i64 (E.time + 1), .int .i64 E.now]) ::
    sl 46 (.slice pa A1.length ca) (37, A1.flatMap encA) :: sl 16 (.slice (some ⟨bt, 0, none⟩) T1.length ct) (43, T1.flatMap encT) :: sl 1 (.slice pr lb.length cr) (72, lb.map ptrV) ::
    ixB bA (idxOf (A1.map (·.id))) :: ixB bI (idxOf (T1.map (·.id))) :: (rowsP E.rws lb ++ cs))
          rw [hl4, hm4]
          exact hs
        exact h3.imp fun _ hg => (eng_back [pts b112 (3, cells .i64 ([d, c].map fun (k : Nat) => (k : Int)))]).2 ((eng_back [pts b112 (3, cells .i64 ([d, c].map fun (k : Nat) => (k : Int))), pts b6 (24, nm held)]).1 hg)
      · have h3 : Sat κ _ ([pts b112 (3, cells .i64 ([d, c].map fun (k : Nat) => (k : Int))), pts b6 (24, nm held)] ++ engO b ⟨A2, T1, R2, E.time + 1, E.now⟩ ⟨pa, ca, some ⟨bt, 0, none⟩, ct, pr, cr, bA, bI, lb⟩ cs) := h.2.imp fun _ hg => (eng_back [pts b112 (3, cells .i64 ([d, c].map fun (k : Nat) => (k : Int))), pts b6 (24, nm held)]).2 ((eng_back [pts b112 (3, cells .i64 ([d, c].map fun (k : Nat) => (k : Int)))]).1 hg)
        exact h3.pm 2 [1, 0]
      · refine .go ?_
        refine .reg ?_
        refine .ad ?_
        refine .mv ?_
        refine .nil fun aa w hf hs => ⟨k + 1, by omega, by omega, hf.to (by repeat (first | exact trivial | refine ⟨rfl, ?_⟩)), ?_⟩
        rw [hsucc, key, hrow]
        exact hs.pm 2 []
  · have hkn : k = e.trs.length := by have := of_decide_eq_false hc; omega
    subst hkn
    refine .x0 fun w hs => ?_
    exact ⟨rfl, hs⟩
end Go.Proofs.YtpcechnalfaajaaDoor

/- engine: Copy. -/
namespace Go.Proofs.YtpcechnalfaajaaDoor
open Go Go.Proofs

theorem eng_last {κ : Kap} {g : Hp} {b : Nat} {e : Eng} {i : EngI} {x : HProp} {A cs : List HProp} (F : List HProp) (h : sepL κ (x :: (F ++ engO b e i (A ++ cs))) g) : sepL κ (F ++ engO b e i (A ++ x :: cs)) g := by
  refine sepL_tails (fun g h => ?_) F (sepL_in F h)
  have h1 := (eng_back [x]).1 h
  exact sepL_tails (fun g h => sepL_tails (fun g h => sepL_in A h) (rowsP e.rws i.lb) h) [_, _, _, _, _, _] h1
abbrev CpI := Nat × List Nat × Option Addr × Nat
set_option maxHeartbeats 2000000 in
theorem ecopy_tr (b : Nat) (e : Eng) (i : EngI) (hi : i.lb.length = e.rws.length) {m : Nat} (hm : m < 80000) (hW : EngW m e) (κ : Kap) (cs : List HProp) :
    Te Tryd.prog 36 [.pointer (some ⟨b, 0, none⟩)] κ (engO b e i cs) (fun j : Nat × EngI => j.2.lb.length = e.rws.length) (fun j => .pointer (some ⟨j.1, 0, none⟩)) (fun j => engO j.1 e j.2 (engO b e i cs)) := by
  refine .enter Tryd.func36 rfl rfl ?_
  have hla := hW.la
  have hlt := hW.lt
  have hlr := hW.lr
  have hil : e.ids.length = e.acc.length := by simp [Eng.ids]
  have htl : e.tids.length = e.trs.length := by simp [Eng.tids]
  refine .seq ?_
  refine .reg ?_
  refine .as ?_
  refine .go ?_
  refine .seq ?_
  refine .reg ?_
  refine .mv ?_
  refine .nc ?_
  refine .ld (v := .agg #[.slice i.pa e.acc.length i.ca, .slice i.pt e.trs.length i.ct, .slice i.pr i.lb.length i.cr, ptrV i.bA, ptrV i.bI, .int .i64 e.time, .int .i64 e.now]) ?_
  refine .al fun b3 => ?_
  refine .stw ?_
  refine .go ?_
  refine .seq ?_
  refine .reg ?_
  refine .mv ?_
  refine .nc ?_
  refine .fa ?_
  refine .fa ?_
  refine .ld ?_
  refine .rds i.pa e.acc.length i.ca 46 (hrd := by intro b hb; unfold engO engH; rw [hb]; infer_instance) fun hrd1 _ => ?_
  refine .ns 46 37 ?_
  refine .ap hrd1.tail (fun p14 c14 => ?_) (show (e.acc.flatMap encA).length = e.acc.length * 46 by rw [flat_len encA 46 encA_len]) (one_flat encA encA_one _)
  refine .fa ?_
  refine .fa ?_
  refine .st ?_
  refine .go ?_
  refine .seq ?_
  refine .reg ?_
  refine .mv ?_
  refine .nc ?_
  refine .fa ?_
  refine .fa ?_
  refine .ld ?_
  refine .rds i.pt e.trs.length i.ct 16 (hrd := by intro b hb; unfold engO engH; rw [hb]; infer_instance) fun hrd2 _ => ?_
  refine .ns 16 43 ?_
  refine .ap hrd2.tail (fun p22 c22 => ?_) (show (e.trs.flatMap encT).length = e.trs.length * 16 by rw [flat_len encT 16 encT_len]) (one_flat encT encT_one _)
  refine .fa ?_
  refine .fa ?_
  refine .st ?_
  refine .go ?_
  refine .seq ?_
  refine .reg ?_
  refine .fa ?_
  refine .fa ?_
  refine .st ?_
  refine .go ?_
  refine .seq ?_
  refine .seq ?_
  refine .reg ?_
  refine .mv ?_
  refine .nc ?_
  refine .fa ?_
  refine .fa ?_
  refine .ld ?_
  refine .ln ?_
  refine .mv ?_
  refine .go ?_
  refine .block ?_
  refine .sat (cs' := pts b3 (92, [.slice p14 e.acc.length c14, .slice p22 e.trs.length c22, .slice ((0, [], none, 0) : CpI).2.2.1 ((0, [], none, 0) : CpI).2.1.length ((0, [], none, 0) : CpI).2.2.2, ptrV i.bA, ptrV i.bI, .int .i64 e.time, .int .i64 e.now]) :: sl 1 (.slice ((0, [], none, 0) : CpI).2.2.1 ((0, [], none, 0) : CpI).2.1.length ((0, [], none, 0) : CpI).2.2.2) (72, ((0, [], none, 0) : CpI).2.1.map ptrV) :: sl 46 (.slice p14 e.acc.length c14) (37, e.acc.flatMap encA) :: sl 16 (.slice p22 e.trs.length c22) (43, e.trs.flatMap encT) :: engO b e i (rowsP (e.rws.take ((0, [], none, 0) : CpI).1) ((0, [], none, 0) : CpI).2.1 ++ cs)) (fun w hs => by rw [Nat.zero_add e.trs.length, Nat.zero_add e.acc.length] at hs; exact (hs.nilS 1 72).pm 4 [3, 0, 2, 1]) ?_
  refine .lp (fun x : CpI => [(0, .pointer (some ⟨b, 0, none⟩)), (3, .pointer (some ⟨b3, 0, none⟩)), (31, .slice i.pr i.lb.length i.cr), (32, .int .i64 i.lb.length), (33, .int .i64 x.1)])
    (fun x => pts b3 (92, [.slice p14 e.acc.length c14, .slice p22 e.trs.length c22, .slice x.2.2.1 x.2.1.length x.2.2.2, ptrV i.bA, ptrV i.bI, .int .i64 e.time, .int .i64 e.now]) :: sl 1 (.slice x.2.2.1 x.2.1.length x.2.2.2) (72, x.2.1.map ptrV) :: sl 46 (.slice p14 e.acc.length c14) (37, e.acc.flatMap encA) :: sl 16 (.slice p22 e.trs.length c22) (43, e.trs.flatMap encT) :: engO b e i (rowsP (e.rws.take x.1) x.2.1 ++ cs)) (fun x => x.1 ≤ e.rws.length ∧ x.2.1.length = x.1) (fun x => e.rws.length - x.1) (0, [], none, 0) (by exact ⟨by omega, rfl⟩) (by repeat (first | exact trivial | refine ⟨rfl, ?_⟩)) rfl fun x hx => ?_
  obtain ⟨k, lb, pr, cr⟩ := x
  simp only at hx
  obtain ⟨hk, hlb⟩ := hx
  refine .sat (cs' := pts b3 (92, [.slice p14 e.acc.length c14, .slice p22 e.trs.length c22, .slice pr lb.length cr, ptrV i.bA, ptrV i.bI, .int .i64 e.time, .int .i64 e.now]) :: sl 1 (.slice pr lb.length cr) (72, lb.map ptrV) :: sl 46 (.slice p14 e.acc.length c14) (37, e.acc.flatMap encA) :: sl 16 (.slice p22 e.trs.length c22) (43, e.trs.flatMap encT) :: engO b e i (rowsP (e.rws.take k) lb ++ cs)) (fun w hs => hs) ?_
  refine .seq ?_
  refine .reg ?_
  refine .lt ?_
  refine .go ?_
  refine .seq ?_
  refine .cond rfl (fun hc => ?_) (fun hc => ?_)
  · have hkl : k < e.rws.length := by have : (k : Int) < i.lb.length := of_decide_eq_true hc; omega
    have hkb : k < i.lb.length := by omega
    have hgb : getV false (i.lb.map ptrV) (((k : Nat) : Int).toNat * 1) 1 = some (ptrV i.lb[k]) := by
      rw [Nat.mul_one]; simp [getV, get1_eq, hkb]
    refine .go ?_
    refine .slp (p := i.pr) (cap := i.cr) (sz := 1) (n0 := i.lb.length) (by omega) (fun bp hbp _ => ?_)
    refine .sat (fun w hs => (eng_listF [_, _, _, _] hkl hi).1 hs) ?_
    simp only [List.cons_append, List.nil_append]
    have hrl : (e.rws[k]).length < 100000 := by have := hW.lw _ (List.getElem_mem hkl); omega
    unfold engH
    rw [hbp]
    refine .seq ?_
    refine .block ?_
    refine .seq ?_
    refine .reg ?_
    refine .ix ?_
    refine .lx hgb ?_
    refine .as ?_
    refine .go ?_
    refine .regD [(b3, 0, [.slice p14 e.acc.length c14, .slice p22 e.trs.length c22, .slice pr lb.length cr, ptrV i.bA, ptrV i.bI, .int .i64 e.time, .int .i64 e.now])] [9] ?_
    refine .fa 0 ?_
    refine .fa 1 ?_
    refine .ld 2 ?_
    refine .mv 3 ?_
    refine .ce 4 (rcopyB_tr i.lb[k] e.rws[k] hrl κ _) (fun b' _ => ?_)
    refine .bs1 (v := ptrV b') (m := 1) 5 (fun b42 => ?_) rfl
    refine .ap (src := [ptrV b']) (k := 1) (m := 1) 6 (.inr ⟨b42, 0, rfl, .ofRd (h := .head)⟩) (fun p43 c43 => ?_) rfl rfl
    refine .fa 7 ?_
    refine .fa 8 ?_
    refine .st 9 ?_
    refine .go ?_
    refine .reg ?_
    refine .ad ?_
    refine .mv ?_
    refine .nil fun aa w hf hs => ⟨(k + 1, lb ++ [b'], p43, c43), ⟨by show k + 1 ≤ _; omega, by simp [hlb]⟩, by show _ - (k + 1) < _ - k; omega, hf.to (by repeat (first | exact trivial | refine ⟨rfl, ?_⟩)), ?_⟩
    have h1 := hs.rows.pm 2 [1, 0]
    rw [← hbp] at h1
    have h2 := (eng_listF [_, _, _, _, _] hkl hi).2 h1
    have h3 := h2.imp fun _ hg => eng_last [_, _, _, _] hg
    have hrp : rowsP (e.rws.take (k + 1)) (lb ++ [b']) = rowsP (e.rws.take k) lb ++ [lstB b' e.rws[k]] := by
      rw [List.take_succ_eq_append_getElem hkl]
      exact rowsP_app (e.rws.take k) lb [e.rws[k]] [b'] (by simp [hlb]; omega)
    show Sat κ w (pts b3 (92, [.slice p14 e.acc.length c14, .slice p22 e.trs.length c22, .slice p43 (lb ++ [b']).length c43, ptrV i.bA, ptrV i.bI, .int .i64 e.time, .int .i64 e.now]) :: sl 1 (.slice p43 (lb ++ [b']).length c43) (72, (lb ++ [b']).map ptrV) :: sl 46 (.slice p14 e.acc.length c14) (37, e.acc.flatMap encA) :: sl 16 (.slice p22 e.trs.length c22) (43, e.trs.flatMap encT) :: engO b e i (rowsP (e.rws.take (k + 1)) (lb ++ [b']) ++ cs))
    rw [hrp, List.append_assoc, List.length_append, List.map_append]
    exact h3
  · have hkn : k = e.rws.length := by have : ¬ (k : Int) < i.lb.length := of_decide_eq_false hc; omega
    subst hkn
    rw [List.take_length]
    refine .xgo ?_
    refine .seq ?_
    refine .regD [(b, 0, [.slice i.pa e.acc.length i.ca, .slice i.pt e.trs.length i.ct, .slice i.pr i.lb.length i.cr, ptrV i.bA, ptrV i.bI, .int .i64 e.time, .int .i64 e.now])] [] ?_
    refine .mv 0 ?_
    refine .nc 1 ?_
    refine .fa 2 ?_
    refine .fa 3 ?_
    refine .ld 4 ?_
    refine .mv 6 ?_
    refine .nc 7 ?_
    refine .fa 8 ?_
    refine .fa 9 ?_
    refine .ld 10 ?_
    refine .pm 10 [8, 0, 1, 2, 3, 4, 5, 6, 7, 9] ?_
    refine .ce 5 (copyX_tr i.bA (idxOf e.ids) (idx_srt hW.hn) (by rw [idx_len hW.hn, hil]; omega) κ _) (fun nA _ => ?_)
    refine .pm 11 [10, 0, 1, 2, 3, 4, 5, 6, 7, 8, 9] ?_
    refine .ce 11 (copyX_tr i.bI (idxOf e.tids) (idx_srt hW.hnt) (by rw [idx_len hW.hnt, htl]; omega) κ _) (fun nI _ => ?_)
    refine .fa 12 ?_
    refine .fa 13 ?_
    refine .st 14 ?_
    refine .fa 15 ?_
    refine .fa 16 ?_
    refine .st 17 ?_
    refine .go ?_
    refine .seq ?_
    refine .reg ?_
    refine .as ?_
    refine .go ?_
    refine .r1 fun w hs => ?_
    refine ⟨(b3, ⟨p14, c14, p22, c22, pr, cr, nA, nI, lb⟩), hlb, rfl, ?_⟩
    have h1 := hs.pm 12 [4, 6, 7, 5, 2, 0, 8, 9, 10, 11, 3, 1]
    have h2 := h1.imp fun _ hg => (eng_back [_, _, _, _, _, _]).1 hg
    have h3 : Sat κ w (engO b e i (([_, _, _, _, _, _] ++ rowsP e.rws lb) ++ cs)) := h2
    have h4 := h3.imp fun _ hg => (eng_back ([_, _, _, _, _, _] ++ rowsP e.rws lb)).2 hg
    exact h4
end Go.Proofs.YtpcechnalfaajaaDoor

/- engine: Accounts. -/
namespace Go.Proofs.YtpcechnalfaajaaDoor
open Go Go.Proofs

theorem Co.slq {P : Program} {Q : Exit → Act → World → Prop} {n : Nd} {κ : Kap} {fr : List (Nat × Value)} {cs : List HProp} {c : Code} {p : Option Addr} {n0 cap sz : Nat} {x : TypeId × List Value} {F : HProp → List HProp} (k : (n0 = 0 ∨ ∃ b, p = some ⟨b, 0, none⟩) → Co P Q n κ c fr cs) (h : Ob (sl sz) (.slice p n0 cap) cs x F := by infer_instance) : Co P Q n κ c fr cs := by
  rcases Nat.eq_zero_or_pos n0 with h0 | h0
  · exact k (.inl h0)
  · exact Co.slp h0 (fun b hb _ => k (.inr ⟨b, hb⟩)) h
/-- All accounts, rising by their numbers. -/
def Eng.accounts (e : Eng) : List Account := (idxOf e.ids).map fun kv => e.acc.getD kv.2.toNat zA
abbrev AccS := List Account
def accStep (e : Eng) (s : AccS) (x : KV) : AccS := s ++ [e.acc.getD x.2.toNat zA]
def accOk (e : Eng) (s : AccS) (x : KV) : Prop := 0 ≤ x.2 ∧ x.2 < e.acc.length ∧ s.length < 1000
theorem foldl_acc (e : Eng) : ∀ (m : List KV) (s : AccS), m.foldl (accStep e) s = s ++ m.map fun kv => e.acc.getD kv.2.toNat zA := by
  intro m
  induction m with
  | nil => intro s; simp
  | cons x m ih => intro s; rw [List.foldl_cons, ih]; simp [accStep]
theorem okF_acc (e : Eng) : ∀ (m : List KV) (s : AccS), (∀ x ∈ m, 0 ≤ x.2 ∧ x.2 < e.acc.length) → s.length + m.length < 1000 → okF (accOk e) (accStep e) s m := by
  intro m
  induction m with
  | nil => intro s _ _; trivial
  | cons x m ih =>
    intro s h hl
    have h1 := h x (List.mem_cons_self ..)
    simp only [List.length_cons] at hl
    refine ⟨⟨h1.1, h1.2, by omega⟩, ih _ (fun y hy => h y (List.mem_cons_of_mem _ hy)) ?_⟩
    simp [accStep]; omega
set_option maxHeartbeats 2000000 in
theorem accounts_tr (b : Nat) (e : Eng) (i : EngI) (hidx : ∀ x ∈ idxOf e.ids, 0 ≤ x.2 ∧ x.2 < e.acc.length) (hl : (idxOf e.ids).length < 700) (κ : Kap) (cs : List HProp) :
    Te Tryd.prog 35 [.pointer (some ⟨b, 0, none⟩)] κ (engO b e i cs) (fun _ : Option Addr × Nat => True) (fun j => .slice j.1 e.accounts.length j.2) (fun j => sl 46 (.slice j.1 e.accounts.length j.2) (37, e.accounts.flatMap encA) :: engO b e i cs) := by
  refine .enterM Tryd.func35 rfl rfl ?_
  refine .slq (p := i.pa) (n0 := e.acc.length) (cap := i.ca) (sz := 46) (fun hba => ?_)
  refine .seq ?_
  refine .reg ?_
  refine .bx fun b1 => ?_
  refine .as ?_
  refine .go ?_
  refine .seq ?_
  refine .reg ?_
  refine .al fun b3 => ?_
  refine .go ?_
  refine .seq ?_
  refine .seq ?_
  refine .reg ?_
  refine .ld ?_
  refine .nc ?_
  refine .fa ?_
  refine .fa ?_
  refine .ld ?_
  refine .mf ?_
  refine .go ?_
  refine .block ?_
  have hF := foldl_acc e (idxOf e.ids) []
  rw [List.nil_append] at hF
  have hF : (idxOf e.ids).foldl (accStep e) [] = e.accounts := hF
  have hok := okF_acc e (idxOf e.ids) [] hidx (by simpa using Nat.lt_of_lt_of_le hl (by decide))
  refine .rf (p := fun _ : Option Addr × Nat => True) (v := .tuple #[]) (cs' := fun j => [pts b3 (38, [.slice j.1 e.accounts.length j.2]), sl 46 (.slice j.1 e.accounts.length j.2) (37, e.accounts.flatMap encA), pts b1 (27, [ptrV b]), pts b (92, [.slice i.pa e.acc.length i.ca, .slice i.pt e.trs.length i.ct, .slice i.pr i.lb.length i.cr, ptrV i.bA, ptrV i.bI, .int .i64 e.time, .int .i64 e.now]), sl 46 (.slice i.pa e.acc.length i.ca) (37, e.acc.flatMap encA)] ++ (sl 16 (.slice i.pt e.trs.length i.ct) (43, e.trs.flatMap encT) :: sl 1 (.slice i.pr i.lb.length i.cr) (72, i.lb.map ptrV) :: ixB i.bA (idxOf e.ids) :: ixB i.bI (idxOf e.tids) :: (rowsP e.rws i.lb ++ cs))) (fun lp rb r h1 h2 h3 h4 h5 hf => ?_) (fun rb j _ => ?_)
  · have hfeed : Feed Tryd.prog κ lp encKV (accOk e) (fun s => exB (fun _ : Option Addr × Nat => True) fun j => pob lp (.loop r) :: [pts b3 (38, [.slice j.1 s.length j.2]), sl 46 (.slice j.1 s.length j.2) (37, s.flatMap encA), pts b1 (27, [ptrV b]), pts b (92, [.slice i.pa e.acc.length i.ca, .slice i.pt e.trs.length i.ct, .slice i.pr i.lb.length i.cr, ptrV i.bA, ptrV i.bI, .int .i64 e.time, .int .i64 e.now]), sl 46 (.slice i.pa e.acc.length i.ca) (37, e.acc.flatMap encA)]) (accStep e) := by
      refine feed_of (σ := AccS) (α := KV) (enc := encKV) (ok := accOk e) (step := accStep e) (n := ⟨_, []⟩) h1 h2 (fun x => by rw [h3]; rfl) (fun _ (_ : Option Addr × Nat) => True) (fun s j => [pts b3 (38, [.slice j.1 s.length j.2]), sl 46 (.slice j.1 s.length j.2) (37, s.flatMap encA), pts b1 (27, [ptrV b]), pts b (92, [.slice i.pa e.acc.length i.ca, .slice i.pt e.trs.length i.ct, .slice i.pr i.lb.length i.cr, ptrV i.bA, ptrV i.bI, .int .i64 e.time, .int .i64 e.now]), sl 46 (.slice i.pa e.acc.length i.ca) (37, e.acc.flatMap encA)]) rfl (by rw [h3]; decide) hf
        (ι2 := KV × AccS × Option Addr × Nat) (fun j => [(1, .pointer (some ⟨b1, 0, none⟩)), (3, .pointer (some ⟨b3, 0, none⟩)), (5, .int .i64 j.1.2)]) (fun j => [pts b3 (38, [.slice j.2.2.1 j.2.1.length j.2.2.2]), sl 46 (.slice j.2.2.1 j.2.1.length j.2.2.2) (37, j.2.1.flatMap encA), pts b1 (27, [ptrV b]), pts b (92, [.slice i.pa e.acc.length i.ca, .slice i.pt e.trs.length i.ct, .slice i.pr i.lb.length i.cr, ptrV i.bA, ptrV i.bI, .int .i64 e.time, .int .i64 e.now]), sl 46 (.slice i.pa e.acc.length i.ca) (37, e.acc.flatMap encA)]) (fun s _ x j => j.1 = x ∧ j.2.1 = s) ?_ ?_
      · intro s j x F hok _
        rw [h3, h4]
        simp only [List.cons_append, List.nil_append]
        refine .reg ?_
        refine .as ?_
        exact .nil fun aa w hf hs => ⟨(x, s, j), ⟨rfl, rfl⟩, hf.to (by repeat (first | exact trivial | refine ⟨rfl, ?_⟩)), hs⟩
      · intro s _ x j F hok _ hj
        obtain ⟨y, s', p, c⟩ := j
        obtain ⟨h6, h7⟩ := hj
        simp only at h6 h7
        subst h6 h7
        obtain ⟨hv0, hv1, hsl⟩ := hok
        obtain ⟨ba, hba⟩ := hba.resolve_left (by omega)
        rw [h5]
        obtain ⟨v, hv⟩ : ∃ v : Nat, y.2 = (v : Int) := ⟨y.2.toNat, by omega⟩
        have hvl : v < e.acc.length := by omega
        have hg : getV true (e.acc.flatMap encA) (((v : Nat) : Int).toNat * 46) 46 = some (.agg (encA e.acc[v]).toArray) := flat_get encA 46 encA_len e.acc v 0 46 true _ hvl (getV_whole (encA_len _))
        have hstep : accStep e s' y = s' ++ [e.acc[v]] := by unfold accStep; rw [hv, Int.toNat_natCast, getD_at hvl]
        simp only [List.cons_append, List.nil_append]
        rw [hba, hv, hstep]
        refine .block ?_
        refine .regD [(b3, 0, [.slice p s'.length c]), (b1, 0, [ptrV b]), (b, 0, [.slice (some ⟨ba, 0, none⟩) e.acc.length i.ca, .slice i.pt e.trs.length i.ct, .slice i.pr i.lb.length i.cr, ptrV i.bA, ptrV i.bI, .int .i64 e.time, .int .i64 e.now]), (ba, 0, e.acc.flatMap encA)] [11] ?_
        refine .ld 0 ?_
        refine .ld 1 ?_
        refine .nc 2 ?_
        refine .fa 3 ?_
        refine .fa 4 ?_
        refine .ld 5 ?_
        refine .mv 6 ?_
        refine .ix 7 ?_
        refine .lx 8 hg ?_
        refine .bs1 (v := .agg (encA e.acc[v]).toArray) (m := 46) 9 (fun b23 => ?_) (encA_len _)
        rw [vc_agg]
        refine .ap (src := encA e.acc[v]) (k := 1) (m := 46) 10 (.inr ⟨b23, 0, rfl, .ofRd (h := .head)⟩) (fun p24 c24 => ?_) (encA_len _) (encA_one _)
        refine .st 11 ?_
        have hlr : (s' ++ [e.acc[v]]).length = List.length s' + 1 := by simp
        have hft : (s' ++ [e.acc[v]]).flatMap encA = List.flatMap encA s' ++ encA e.acc[v] := by simp
        rw [← hlr, ← hft]
        refine .nil fun aa w hf hs => ⟨(p24, c24), trivial, ?_⟩
        exact hs.rows
    intro w hs
    have hs2 : Sat κ w (exB (fun _ : Option Addr × Nat => True) (fun j => pob lp (.loop r) :: [pts b3 (38, [.slice j.1 ([] : AccS).length j.2]), sl 46 (.slice j.1 ([] : AccS).length j.2) (37, ([] : AccS).flatMap encA), pts b1 (27, [ptrV b]), pts b (92, [.slice i.pa e.acc.length i.ca, .slice i.pt e.trs.length i.ct, .slice i.pr i.lb.length i.cr, ptrV i.bA, ptrV i.bI, .int .i64 e.time, .int .i64 e.now]), sl 46 (.slice i.pa e.acc.length i.ca) (37, e.acc.flatMap encA)]) :: ixB i.bA (idxOf e.ids) :: pob rb (.deferred (some [])) :: sl 16 (.slice i.pt e.trs.length i.ct) (43, e.trs.flatMap encT) :: sl 1 (.slice i.pr i.lb.length i.cr) (72, i.lb.map ptrV) ::  ixB i.bI (idxOf e.tids) :: (rowsP e.rws i.lb ++ cs)) :=
      ((hs.nilS 46 37).pm 11 [1, 3, 0, 4, 5, 6, 9, 2, 7, 8, 10]).imp fun g hg => exB_in (none, 0) trivial hg
    refine (all_tr hfeed i.bA (idxOf e.ids) (by omega) [] _ hok w hs2).mono fun e' w' ⟨he, hs3⟩ => ?_
    rw [hF] at hs3
    obtain ⟨g, s0, d0, hg⟩ := hs3.ex
    obtain ⟨j, _, hx⟩ := exB_out hg
    have hs4 : Sat κ w' (pob lp (.loop r) :: ([pts b3 (38, [.slice j.1 e.accounts.length j.2]), sl 46 (.slice j.1 e.accounts.length j.2) (37, e.accounts.flatMap encA), pts b1 (27, [ptrV b]), pts b (92, [.slice i.pa e.acc.length i.ca, .slice i.pt e.trs.length i.ct, .slice i.pr i.lb.length i.cr, ptrV i.bA, ptrV i.bI, .int .i64 e.time, .int .i64 e.now]), sl 46 (.slice i.pa e.acc.length i.ca) (37, e.acc.flatMap encA)] ++ (ixB i.bA (idxOf e.ids) :: pob rb (.deferred (some [])) :: sl 16 (.slice i.pt e.trs.length i.ct) (43, e.trs.flatMap encT) :: sl 1 (.slice i.pr i.lb.length i.cr) (72, i.lb.map ptrV) ::  ixB i.bI (idxOf e.tids) :: (rowsP e.rws i.lb ++ cs)))) := ⟨hs3.os, hs3.tape, hs3.out, hs3.ro, g, s0, d0, hx⟩
    exact ⟨j, trivial, he, hs4.pm 10 [0, 7, 1, 2, 3, 4, 5, 8, 9, 6]⟩
  · show Co _ _ _ _ _ _ _
    simp only [List.cons_append, List.nil_append]
    refine .seq ?_
    refine .reg ?_
    refine .ld ?_
    refine .as ?_
    refine .go ?_
    refine .r1M fun w hs => ?_
    refine ⟨j, trivial, rfl, ?_⟩
    exact hs.pm 5 [1, 3, 4]
end Go.Proofs.YtpcechnalfaajaaDoor

/- Deferred calls; calls of a function's value; closures over an engine. -/
namespace Go.Proofs.YtpcechnalfaajaaDoor
open Go Go.Proofs
section
variable {P : Program} {ops : Array Oper} {Q : Exit → Act → World → Prop} {n : Nd} {κ : Kap} {rest : List Oper} {fr : List (Nat × Value)} {cs : List HProp}
variable {ty : TypeId} {pos : String} {af : Array Edge} {g : Option (Nat × Bool)}
/-- A call is laid by for the function's end. -/
theorem St.df {f : FuncId} {c : Operand} {fst cap : List Value} {ts : Array TypeId} (k : St P ops Q ⟨n.n, ⟨.fn (.func f) cap.toArray, fst.toArray⟩ :: n.ds⟩ κ rest fr cs)
    (hf : ev fr c = some (.func (.func f) fst.toArray cap.toArray) := by rfl) (hw : wantedF ops fr g true = true := by rfl) : St P ops Q n κ (⟨none, .defer ⟨.value c, #[], ts⟩, ty, pos, af, g⟩ :: rest) fr cs := by
  intro a w hfr hs
  simp only [wpListY_cons, wanted_of (o := ⟨none, .defer ⟨.value c, #[], ts⟩, ty, pos, af, g⟩) hfr hw, if_true]
  have hrun : (execOp a.eval ⟨none, .defer ⟨.value c, #[], ts⟩, ty, pos, af, g⟩).run P w = .ok (.defer ⟨.fn (.func f) cap.toArray, fst.toArray⟩) w := by
    have e1 : Array.map a.eval #[] = #[] := by simp
    simp only [execOp, resolve, hfr.eval hf, Deferred.ofValue, Sem.run_bind, Sem.run_pure, Result.andThen_ok, e1]
    simp
  simp only [Oper.wpY, hrun, Oper.upY, Oper.upon]
  exact k _ _ ⟨by simpa [Act.put] using hfr.size, by simp [Act.put, hfr.defers], fun d v e => hfr.at_ d v e⟩ hs
/-- A return behind one deferred call of a function: one result. -/
theorem Co.r1D {fn gn : Func} {gc : Code} {gf : FuncId} {args : List Value} {R : Ending → World → Prop} {r : ResultVar} {v : Value} {cs' : List HProp}
    (hd : Co P (bodyPost P gn fun e w' => (∃ u, e = .returned u) ∧ Sat κ w' cs') ⟨gn.ntmps, []⟩ κ gc (enumF 0 args) cs) (k : ∀ w, Sat κ w cs' → R (.returned v) w)
    (h : RetTo .ret Q (bodyPostM Fence.wide 0 P fn R .ret) ∧ fn.results = #[r] ∧ Rv P n κ fr cs' r v := by refine ⟨?_, ?_, ?_⟩; infer_instance; rfl; exact .t)
    (hn : n.ds = [⟨.fn (.func gf) args.toArray, #[]⟩] := by rfl) (hg : P.funcs[gf]? = some gn := by rfl) (hb : gn.body = some gc := by rfl) (hl : Nat.ble args.length gn.ntmps = true := by rfl) (hc : Cal P gf := by infer_instance) :
    Co P Q n κ .ret fr cs := by
  refine .ret fun a w hf hs => h.1.out a w ?_
  show LeavesInM Fence.wide 0 P fn a.tmps R a.defers .returning w
  rw [hf.defers, hn]
  refine ⟨by simp, .inr ⟨fun h => (by cases h), _, _, gf, args.toArray, rfl, ?_, fun _ _ => trivial, ?_⟩⟩
  · show (invoke (.fn (.func gf) args.toArray) #[]).run P w = _
    simp only [invoke]
    have e : (#[] ++ args.toArray : Array Value) = args.toArray := by simp
    rw [e, run_enter]
  · have hl' := Nat.le_of_ble_eq_true hl
    have hbody := hd { tmps := args.toArray ++ Array.replicate (gn.ntmps - args.toArray.size) undef, defers := [] } w ⟨by simp; omega, rfl, fun d v e => by
      obtain ⟨_, h2⟩ := enumF_look args 0 d v e
      have hlt : d < args.length := by
        rcases Nat.lt_or_ge d args.length with h' | h'
        · exact h'
        · simp [List.getElem?_eq_none h'] at h2
      simp only [Array.getElem?_append]
      simp [hlt]
      simpa [List.getElem?_eq_getElem hlt] using h2⟩ hs
    refine (callsDIn_of_wp (F := Fence.wide) (n := 0) hg hb trivial ((wpIn_wide (n := 0)).2 hbody)).mono fun e u' w' he => ?_
    obtain ⟨rfl, ⟨u, rfl⟩, hs'⟩ := he
    show LeavesInM Fence.wide 0 P fn a.tmps R [] .returning w'
    refine ⟨v, ?_, k _ hs'⟩
    have h2 := h.2.2 a _ hf hs'
    rw [results_eq, h.2.1]; simp [h2]
theorem Co.xnil {id : Nat} (k : ∀ a w, Fr n a fr → Sat κ w cs → Q (.exit id) a w) : Co P Q n κ (.exit id) fr cs := fun a w hf hs => wp_exit (k a w hf hs)
/-- A call of a function's value. -/
theorem St.clV {d : Nat} {f : FuncId} {c : Operand} {fst cap : List Value} {xs : List Operand} {ts : Array TypeId} {vs : List Value} {v : Value} {cs' : List HProp} (h : ∀ w, Sat κ w cs → Calls P f (fst ++ vs ++ cap).toArray w fun e w' => e = .returned v ∧ Sat κ w' cs')
    (k : St P ops Q n κ rest ((d, v) :: fr) cs') (hf : ev fr c = some (.func (.func f) fst.toArray cap.toArray) := by rfl) (hx : evs fr xs = some vs := by rfl) (hc : Cal P f := by infer_instance)
    (hd : Nat.blt d n.n = true := by rfl) (hw : wantedF ops fr g true = true := by rfl) : St P ops Q n κ (⟨some d, .call ⟨.value c, xs.toArray, ts⟩, ty, pos, af, g⟩ :: rest) fr cs :=
  .nn (K := fun u c => u = v ∧ c = cs') (.callV hf hx fun w hs => by
    have e : fst.toArray ++ vs.toArray ++ cap.toArray = (fst ++ vs ++ cap).toArray := by simp
    rw [e]
    exact (h w hs).mono fun _ _ ⟨e, s⟩ => ⟨v, cs', e, ⟨rfl, rfl⟩, s⟩) (fun _ _ ⟨e, e'⟩ => by rw [e, e']; exact k) hd hw
theorem St.ceV {d : Nat} {ι : Type} {f : FuncId} {c : Operand} {fst cap : List Value} {xs : List Operand} {ts : Array TypeId} {vs : List Value} {r : ι → Value} {cs' : ι → List HProp} {p : ι → Prop}
    (h : ∀ w, Sat κ w cs → Calls P f (fst ++ vs ++ cap).toArray w fun e w' => ∃ i, p i ∧ e = .returned (r i) ∧ Sat κ w' (cs' i))
    (k : ∀ i, p i → St P ops Q n κ rest ((d, r i) :: fr) (cs' i)) (hf : ev fr c = some (.func (.func f) fst.toArray cap.toArray) := by rfl) (hx : evs fr xs = some vs := by rfl) (hc : Cal P f := by infer_instance)
    (hd : Nat.blt d n.n = true := by rfl) (hw : wantedF ops fr g true = true := by rfl) : St P ops Q n κ (⟨some d, .call ⟨.value c, xs.toArray, ts⟩, ty, pos, af, g⟩ :: rest) fr cs :=
  .nn (K := fun u c => ∃ i, p i ∧ u = r i ∧ c = cs' i) (.callV hf hx fun w hs => by
    have e : fst.toArray ++ vs.toArray ++ cap.toArray = (fst ++ vs ++ cap).toArray := by simp
    rw [e]
    exact (h w hs).mono fun _ _ ⟨i, hp, e, s⟩ => ⟨r i, cs' i, e, ⟨i, hp, rfl, rfl⟩, s⟩) (fun _ _ ⟨i, hp, e, e'⟩ => by rw [e, e']; exact k i hp) hd hw
end
section
variable {P : Program} {l : List Oper} {Q : Exit → Act → World → Prop} {L : List Nat} {W : List (Nat × Nat × List Value)} {n : Nd} {κ : Kap} {fuel : Nat} {done : List Nat} {fr : List (Nat × Value)} {cs : List HProp}
variable {ty : TypeId} {pos : String} {af : Array Edge} {g : Option (Nat × Bool)}
theorem Sd.ceV {d : Nat} {ι : Type} {f : FuncId} {c : Operand} {fst cap : List Value} {xs : List Operand} {ts : Array TypeId} {vs : List Value} {r : ι → Value} {cs' : ι → List HProp} {p : ι → Prop} (i : Nat)
    (h : ∀ w, Sat κ w cs → Calls P f (fst ++ vs ++ cap).toArray w fun e w' => ∃ i, p i ∧ e = .returned (r i) ∧ Sat κ w' (cs' i))
    (kk : ∀ i', p i' → Sd P l Q L W n κ fuel (i :: done) ((d, r i') :: fr) (cs' i')) (hi : getO l i = some ⟨some d, .call ⟨.value c, xs.toArray, ts⟩, ty, pos, af, g⟩ := by rfl) (hf : ev fr c = some (.func (.func f) fst.toArray cap.toArray) := by rfl) (hx : evs fr xs = some vs := by rfl) (hc : Cal P f := by infer_instance)
    (hW : ∀ i', WOk (cs' i') W := by intro _; infer_instance) (hd : Nat.blt d n.n = true := by rfl) (hw : wantedF l.toArray fr g true = true := by rfl) (hr : Region.ready .any l.toArray (listedBy l.length done) = [i] := by kernel_rfl) : Sd P l Q L W n κ (fuel + 1) done fr cs :=
  .nn i (K := fun u c => ∃ i, p i ∧ u = r i ∧ c = cs' i) (fr' := fun v => (d, v) :: fr) hi hr hw (.callV hf hx fun w hs => by
    have e : fst.toArray ++ vs.toArray ++ cap.toArray = (fst ++ vs ++ cap).toArray := by simp
    rw [e]
    exact (h w hs).mono fun _ _ ⟨i, hp, e, s⟩ => ⟨r i, cs' i, e, ⟨i, hp, rfl, rfl⟩, s⟩) (fun _ _ hf => hf.put hd)
    (fun _ _ ⟨i', _, _, e'⟩ κ w hs _ => by rw [e'] at hs; exact (hW i').out hs) (fun _ _ ⟨i', hp, e, e'⟩ => by rw [e, e']; exact kk i' hp)
end
/-- Rows among others. -/
def Has (K R : List HProp) : Prop := ∃ A B, R = A ++ (K ++ B)
theorem Has.app {K R : List HProp} (h : Has K R) (A : List HProp) : Has K (A ++ R) := by
  obtain ⟨A', B, rfl⟩ := h
  exact ⟨A ++ A', B, by rw [List.append_assoc]⟩
theorem Has.cons {K R : List HProp} (h : Has K R) (x : HProp) : Has K (x :: R) := h.app [x]
theorem Te.ef {ι : Type} {P : Program} {f : FuncId} {args : List Value} {κ : Kap} {b : Nat} {e e' : Eng} {i : EngI} {cs : List HProp} {p : ι → Prop} {r : ι → Value} {j : ι → EngI} (F : List HProp) (h : Te P f args κ (engO b e i (F ++ cs)) p r (fun x => engO b e' (j x) (F ++ cs))) : Te P f args κ (F ++ engO b e i cs) p r (fun x => F ++ engO b e' (j x) cs) :=
  fun w hs => (h w (hs.imp fun _ hg => (eng_back F).1 hg)).mono fun _ _ ⟨x, h0, h1, h2⟩ => ⟨x, h0, h1, h2.imp fun _ hg => (eng_back F).2 hg⟩
/-- A closure that does an event: what it does; I bounds what an engine is. -/
structure DoOk (P : Program) (κ : Kap) (b : Nat) (ev : Eng.Evs) (I : Nat → Eng → Prop) (fd : FuncId) (cap : List Value) (K : List HProp) : Prop where
  cal : Cal P fd
  run : ∀ (e : Eng) (i : EngI) (k m : Nat) (R : List HProp), k < ev.n → m < 70000 → I m e → i.lb.length = e.rws.length → Has K R →
    Te P fd (.int .i64 k :: cap) κ (engO b e i R) (fun i' : EngI => i'.lb.length = (ev.do_ e k).1.rws.length) (fun _ => .int .i64 (ev.do_ e k).2) (fun i' => engO b (ev.do_ e k).1 i' R)
  pres : ∀ (e : Eng) (k m : Nat), k < ev.n → I m e → I (m + 2) (ev.do_ e k).1
/-- A closure that tells an event's flags. -/
structure FlOk (P : Program) (κ : Kap) (ev : Eng.Evs) (ff : FuncId) (cap : List Value) (K : List HProp) : Prop where
  cal : Cal P ff
  run : ∀ (b : Nat) (e : Eng) (i : EngI) (k : Nat) (R : List HProp), k < ev.n → Has K R → Tr P ff (.int .i64 k :: cap) κ (engO b e i R) (.int .i64 (ev.flags k)) (engO b e i R)
end Go.Proofs.YtpcechnalfaajaaDoor
