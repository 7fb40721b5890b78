/- Part 6 of the proof: U21, U22, U23, U24, U25, V19, U26a, U26, V20, U27. -/
import Derived.Test.YtpcechnalfaajaaDoorP5
/- engine: release. -/
namespace Go.Proofs.YtpcechnalfaajaaDoor
open Go Go.Proofs

theorem release_tr (b : Nat) (e : Eng) (i : EngI) (_ : i.lb.length = e.rws.length) (bt k : Nat) (hbt : i.pt = some ⟨bt, 0, none⟩) (hk : k < e.trs.length) (held : Num) (d c : Nat) (hd : d < e.acc.length) (hc : c < e.acc.length) (nothing : Bool) (κ : Kap) (cs : List HProp) :
    Tr Tryd.prog 66 [.pointer (some ⟨b, 0, none⟩), .pointer (some ⟨bt, 0 + ((k : Nat) : Int).toNat * 16, none⟩), .agg (nm held).toArray, .int .i64 d, .int .i64 c, .bool nothing] κ (engO b e i cs) (.tuple #[]) (engO b (e.release e.trs[k] held d c nothing) i cs) := by
  refine .enter Tryd.func66 rfl rfl ?_
  refine .slp (p := i.pa) (cap := i.ca) (sz := 46) (n0 := e.acc.length) (by omega) (fun ba hba _ => ?_)
  unfold engO engH
  rw [hba, hbt]
  refine .seq ?_
  refine .reg ?_
  refine .bx fun b8 => ?_
  refine .go ?_
  refine .seq ?_
  rw [vc_agg]
  refine .regD [(b, 0, [.slice (some ⟨ba, 0, none⟩) e.acc.length i.ca, .slice (some ⟨bt, 0, none⟩) e.trs.length i.ct, .slice i.pr i.lb.length i.cr, ptrV i.bA, ptrV i.bI, .int .i64 e.time, .int .i64 e.now])] [] ?_
  refine .mv 0 ?_
  refine .nc 1 ?_
  refine .fa 2 ?_
  refine .fa 3 ?_
  refine .ld 4 ?_
  refine .mv 5 ?_
  refine .ix 6 ?_
  refine .mv 7 ?_
  refine .nc 8 ?_
  refine .fa 9 ?_
  refine .fa 10 ?_
  refine .ld 11 ?_
  refine .mv 12 ?_
  refine .ix 13 ?_
  refine .as 14 ?_
  refine .as 15 ?_
  refine .go ?_
  refine .seq ?_
  have hT : ∀ (cs : List HProp) [RdAt bt cs 0 (e.trs.flatMap encT)], RdAt bt cs (0 + ((k : Nat) : Int).toNat * 16) (encT e.trs[k]) := fun cs h => h.sub encT_len k hk
  have hA : ∀ (cs : List HProp) [RdAt ba cs 0 (e.acc.flatMap encA)], RdAt ba cs (0 + ((d : Nat) : Int).toNat * 46) (encA e.acc[d]) := fun cs h => h.sub encA_len d hd
  generalize hp : e.trs[k] = p at *
  generalize hx : e.acc[d] = x at *
  refine .regD [(b8, 0, nm held), (ba, 0 + ((d : Nat) : Int).toNat * 46, encA x)] [12] ?_
  refine .mv 0 ?_
  refine .mv 1 ?_
  refine .nc 2 ?_
  refine .fa 3 ?_
  refine .lx 4 (show getV true (encA x) 4 2 = some (.agg (nm x.dp).toArray) from rfl) ?_
  refine .ldw 5 ?_
  refine .cl 6 (sub_tr x.dp held κ _) ?_
  refine .mv 7 ?_
  refine .ex 8 ?_
  refine .ex 9 ?_
  refine .nc 10 ?_
  refine .fa 11 ?_
  have hp1 : putN (e.acc.flatMap encA) (0 + ((d : Nat) : Int).toNat * 46 + 4) (nm (subN x.dp held)) = some ((e.acc.set d { x with dp := subN x.dp held }).flatMap encA) := by
    rw [Nat.zero_add]
    exact flat_put (j := d) encA_len hd (by rw [hx]; rfl)
  refine .sx 12 (v := .agg (nm (subN x.dp held)).toArray) hp1 ?_
  generalize hA1 : e.acc.set d { x with dp := subN x.dp held } = A1 at *
  have hl1 : A1.length = e.acc.length := by rw [← hA1]; simp
  have hc1 : c < A1.length := by omega
  have hB : ∀ (cs : List HProp) [RdAt ba cs 0 (A1.flatMap encA)], RdAt ba cs (0 + ((c : Nat) : Int).toNat * 46) (encA A1[c]) := fun cs h => h.sub encA_len c hc1
  generalize hy : A1[c] = y at *
  refine .go ?_
  refine .seq ?_
  refine .regD [(b8, 0, nm held), (ba, 0 + ((c : Nat) : Int).toNat * 46, encA y)] [12] ?_
  refine .mv 0 ?_
  refine .mv 1 ?_
  refine .nc 2 ?_
  refine .fa 3 ?_
  refine .lx 4 (show getV true (encA y) 8 2 = some (.agg (nm y.cp).toArray) from rfl) ?_
  refine .ldw 5 ?_
  refine .cl 6 (sub_tr y.cp held κ _) ?_
  refine .mv 7 ?_
  refine .ex 8 ?_
  refine .ex 9 ?_
  refine .nc 10 ?_
  refine .fa 11 ?_
  have hp2 : putN (A1.flatMap encA) (0 + ((c : Nat) : Int).toNat * 46 + 8) (nm (subN y.cp held)) = some ((A1.set c { y with cp := subN y.cp held }).flatMap encA) := by
    rw [Nat.zero_add]
    exact flat_put (j := c) encA_len hc1 (by rw [hy]; rfl)
  refine .sx 12 (v := .agg (nm (subN y.cp held)).toArray) hp2 ?_
  generalize hA2 : A1.set c { y with cp := subN y.cp held } = A2 at *
  have hl2 : A2.length = e.acc.length := by rw [← hA2]; simp [hl1]
  have hd2 : d < A2.length := by omega
  have hD : ∀ (cs : List HProp) [RdAt ba cs 0 (A2.flatMap encA)], RdAt ba cs (0 + ((d : Nat) : Int).toNat * 46) (encA A2[d]) := fun cs h => h.sub encA_len d hd2
  generalize hx2 : A2[d] = x2 at *
  refine .go ?_
  have key : e.release p held d c nothing =
      (let A3 := if nothing = true ∧ band p.flags 64 ≠ 0 then A2.set d { x2 with flags := bclr x2.flags 8 } else A2
       { e with acc := if nothing = true ∧ band p.flags 128 ≠ 0 then A3.set c { A3.getD c zA with flags := bclr (A3.getD c zA).flags 8 } else A3 }) := by
    unfold Eng.release
    simp only
    rw [getD_at hd, hx, hA1, getD_at hc1, hy, hA2, getD_at hd2, hx2]
    by_cases g1 : nothing = true ∧ band p.flags 64 ≠ 0
    · by_cases g2 : nothing = true ∧ band p.flags 128 ≠ 0
      · simp only [if_pos g1, if_pos g2]
      · simp only [if_pos g1, if_neg g2]
    · by_cases g2 : nothing = true ∧ band p.flags 128 ≠ 0
      · simp only [if_neg g1, if_pos g2]
      · simp only [if_neg g1, if_neg g2]
  refine .jn (ι := List Account) (fun _ => [(1, .pointer (some ⟨bt, 0 + ((k : Nat) : Int).toNat * 16, none⟩)), (5, .bool nothing), (12, .pointer (some ⟨ba, 0 + ((d : Nat) : Int).toNat * 46, none⟩)), (13, .pointer (some ⟨ba, 0 + ((c : Nat) : Int).toNat * 46, none⟩))])
    (fun A3 => engH b { e with acc := A3 } { i with pa := some ⟨ba, 0, none⟩, pt := some ⟨bt, 0, none⟩ } (rowsP e.rws i.lb ++ cs))
    (fun A3 => A3 = (if nothing = true ∧ band p.flags 64 ≠ 0 then A2.set d { x2 with flags := bclr x2.flags 8 } else A2) ∧ A3.length = e.acc.length ∧ A3.map (·.id) = e.acc.map (·.id)) ?_ fun A3 h3 => ?_
  · have hid2 : A2.map (·.id) = e.acc.map (·.id) := by
      rw [← hA2, ids_set (e := { e with acc := A1 }) (by rw [getD_at hc1, hy]), ← hA1, ids_set (by rw [getD_at hd, hx])]
    have hid3 : (A2.set d { x2 with flags := bclr x2.flags 8 }).map (·.id) = e.acc.map (·.id) := by
      rw [ids_set (e := { e with acc := A2 }) (by rw [getD_at hd2, hx2]), hid2]
    refine .sat (cs' := engH b { e with acc := A2 } { i with pa := some ⟨ba, 0, none⟩, pt := some ⟨bt, 0, none⟩ } (rowsP e.rws i.lb ++ cs)) (fun w hs => ?_) ?_
    · have hs := hs.rows
      unfold engH
      rw [show ({ e with acc := A2 } : Eng).ids = e.ids from hid2, hl2]
      exact hs
    cases nothing with
    | false =>
      refine .seq ?_
      refine .reg ?_
      refine .mv ?_
      refine .mv ?_
      repeat refine .skip ?_
      first | refine .pt ?_ | refine .pf ?_
      refine .go ?_
      refine .cond rfl (fun hc => by cases hc) (fun hc => ?_)
      exact .skip fun aa w hf hs => ⟨A2, ⟨by rw [if_neg (fun h => by cases h.1)], hl2, hid2⟩, hf.to (by repeat (first | exact trivial | refine ⟨rfl, ?_⟩)), hs⟩
    | true =>
      unfold engH
      refine .seq ?_
      refine .reg ?_
      refine .mv ?_
      refine .mv ?_
      refine .mv ?_
      refine .nc ?_
      refine .fa ?_
      refine .lx (show getV false (encT p) 12 1 = some (.int .i64 p.flags) from rfl) ?_
      refine .an ?_
      refine .ne ?_
      first | refine .pt ?_ | refine .pf ?_
      refine .go ?_
      refine .cond rfl (fun hc => ?_) (fun hc => ?_)
      · refine .reg ?_
        refine .mv ?_
        refine .nc ?_
        refine .fa ?_
        refine .lx (show getV false (encA x2) 3 1 = some (.int .i64 x2.flags) from rfl) ?_
        refine .ano ?_
        refine .nc ?_
        refine .fa ?_
        have hp3 : putN (A2.flatMap encA) (0 + ((d : Nat) : Int).toNat * 46 + 3) [.int .i64 (bclr x2.flags 8)] = some ((A2.set d { x2 with flags := bclr x2.flags 8 }).flatMap encA) := by
          rw [Nat.zero_add]
          exact flat_put (j := d) encA_len hd2 (by rw [hx2]; rfl)
        refine .sx hp3 ?_
        refine .nil fun aa w hf hs => ⟨A2.set d { x2 with flags := bclr x2.flags 8 }, ⟨by rw [if_pos ⟨rfl, of_decide_eq_true hc⟩], by simp [hl2], hid3⟩, hf.to (by repeat (first | exact trivial | refine ⟨rfl, ?_⟩)), ?_⟩
        rw [show ({ e with acc := A2.set d { x2 with flags := bclr x2.flags 8 } } : Eng).ids = e.ids from hid3]
        rw [show ({ e with acc := A2 } : Eng).ids = e.ids from hid2] at hs
        simp only [List.length_set]
        exact hs
      · exact .skip fun aa w hf hs => ⟨A2, ⟨by rw [if_neg (fun h => of_decide_eq_false hc h.2)], hl2, hid2⟩, hf.to (by repeat (first | exact trivial | refine ⟨rfl, ?_⟩)), hs⟩
  · obtain ⟨h3a, hl3, hid3⟩ := h3
    rw [← h3a] at key
    simp only at key
    have hc3 : c < A3.length := by omega
    rw [key]
    rw [getD_at hc3]
    have hC : ∀ (cs : List HProp) [RdAt ba cs 0 (A3.flatMap encA)], RdAt ba cs (0 + ((c : Nat) : Int).toNat * 46) (encA A3[c]) := fun cs h => h.sub encA_len c hc3
    generalize hy3 : A3[c] = y3 at *
    have hid4 : (A3.set c { y3 with flags := bclr y3.flags 8 }).map (·.id) = e.acc.map (·.id) := by
      rw [ids_set (e := { e with acc := A3 }) (by rw [getD_at hc3, hy3]), hid3]
    cases nothing with
    | false =>
      refine .seq ?_
      refine .reg ?_
      refine .mv ?_
      refine .mv ?_
      repeat refine .skip ?_
      first | refine .pt ?_ | refine .pf ?_
      refine .go ?_
      refine .cond rfl (fun hc => by cases hc) (fun hc => ?_)
      refine .e0 fun w hs => ?_
      rw [if_neg (fun h => by cases h.1)]
      exact ⟨rfl, hs⟩
    | true =>
      unfold engH
      refine .seq ?_
      refine .reg ?_
      refine .mv ?_
      refine .mv ?_
      refine .mv ?_
      refine .nc ?_
      refine .fa ?_
      refine .lx (show getV false (encT p) 12 1 = some (.int .i64 p.flags) from rfl) ?_
      refine .an ?_
      refine .ne ?_
      first | refine .pt ?_ | refine .pf ?_
      refine .go ?_
      refine .cond rfl (fun hc => ?_) (fun hc => ?_)
      · refine .reg ?_
        refine .mv ?_
        refine .nc ?_
        refine .fa ?_
        refine .lx (show getV false (encA y3) 3 1 = some (.int .i64 y3.flags) from rfl) ?_
        refine .ano ?_
        refine .nc ?_
        refine .fa ?_
        have hp4 : putN (A3.flatMap encA) (0 + ((c : Nat) : Int).toNat * 46 + 3) [.int .i64 (bclr y3.flags 8)] = some ((A3.set c { y3 with flags := bclr y3.flags 8 }).flatMap encA) := by
          rw [Nat.zero_add]
          exact flat_put (j := c) encA_len hc3 (by rw [hy3]; rfl)
        refine .sx hp4 ?_
        refine .e0 fun w hs => ?_
        rw [if_pos ⟨rfl, of_decide_eq_true hc⟩]
        refine ⟨rfl, ?_⟩
        rw [show ({ e with acc := A3.set c { y3 with flags := bclr y3.flags 8 } } : Eng).ids = e.ids from hid4]
        rw [show ({ e with acc := A3 } : Eng).ids = e.ids from hid3] at hs
        simp only [List.length_set]
        exact hs
      · refine .e0 fun w hs => ?_
        rw [if_neg (fun h => of_decide_eq_false hc h.2)]
        exact ⟨rfl, hs⟩
end Go.Proofs.YtpcechnalfaajaaDoor

/- engine: Amount. -/
namespace Go.Proofs.YtpcechnalfaajaaDoor
open Go Go.Proofs

theorem findRow_at (at_ : Num) : ∀ (rs : List Row) (k : Nat), (∀ j (h : j < rs.length), j < k → ¬ (rs[j].tr = at_ ∧ rs[j].event ≥ 0)) → Eng.findRow at_ rs = Eng.findRow at_ (rs.drop k) := by
  intro rs
  induction rs with
  | nil => intro k _; simp
  | cons r t ih =>
    intro k h
    cases k with
    | zero => rfl
    | succ k =>
      have h0 := h 0 (by simp) (by omega)
      simp only [List.getElem_cons_zero] at h0
      rw [List.drop_succ_cons, ← ih k (fun j hj hk => by have := h (j + 1) (by simpa using hj) (by omega); simpa using this)]
      show (if r.tr = at_ ∧ r.event ≥ 0 then r.amount else Eng.findRow at_ t) = _
      rw [if_neg h0]
theorem amount_tr (b : Nat) (e : Eng) (hn : e.ids.Nodup) (hnt : e.tids.Nodup) (hr : RowOk e) (htl : e.trs.length < 600) (i : EngI) (hi : i.lb.length = e.rws.length) (id : Num) (hpay : ∀ t, e.transfer id = some t → posN (e.payer t) e.ids ≠ none) (κ : Kap) (cs : List HProp) :
    Tr Tryd.prog 24 [.pointer (some ⟨b, 0, none⟩), .agg (nm id).toArray] κ (engO b e i cs) (.agg (nm (e.amount id)).toArray) (engO b e i cs) := by
  refine .enter Tryd.func24 rfl rfl ?_
  refine .seq ?_
  refine .reg ?_
  refine .bx fun b3 => ?_
  refine .al fun b4 => ?_
  refine .go ?_
  refine .seq ?_
  refine .reg ?_
  refine .mv ?_
  rw [vc_agg]
  refine .ldw ?_
  refine .cl (Tr.ef2 (trans_tr b e hnt (by omega) i id κ _)) ?_
  unfold Eng.amount
  cases ht : e.transfer id with
  | none =>
    simp only [Option.getD_none, Option.isSome_none]
    refine .mv ?_
    refine .ex ?_
    refine .ex ?_
    refine .al fun b5 => ?_
    refine .stw ?_
    refine .as ?_
    refine .go ?_
    refine .seq ?_
    refine .seq ?_
    refine .reg ?_
    refine .mv ?_
    refine .nt ?_
    refine .go ?_
    refine .cond rfl (fun hc => ?_) (fun hc => by cases hc)   -- t21
    refine .seq ?_
    refine .reg ?_
    refine .bz ?_
    refine .st ?_
    refine .go ?_
    refine .r1 fun w hs => ?_
    exact ⟨rfl, hs.rows.rows.rows⟩
  | some t =>
    simp only [Option.getD_some, Option.isSome_some]
    have hpt := hpay t ht
    refine .mv ?_
    refine .ex ?_
    refine .ex ?_
    refine .al fun b5 => ?_
    refine .stw ?_
    refine .as ?_
    refine .go ?_
    refine .seq ?_
    refine .seq ?_
    refine .reg ?_
    refine .mv ?_
    refine .nt ?_
    refine .go ?_
    refine .cond rfl (fun hc => by cases hc) (fun hc => ?_)   -- t21
    rw [vc_agg]
    refine .go ?_
    refine .seq ?_
    refine .regD [(b5, 0, encT t)] [] ?_
    refine .fa 0 ?_
    refine .ld 1 (v := .agg (nm t.id).toArray) ?_
    refine .fa 2 ?_
    refine .ld 3 (v := .agg (nm t.debit).toArray) ?_
    refine .pend ?_
    refine .al 5 ?_
    refine .al 4 ?_
    refine .com fun b7 => ?_
    refine .com fun b8 => ?_
    refine .dn ?_
    refine .stw 6 ?_
    refine .stw 7 ?_
    rw [vc_agg, vc_agg]
    refine .go ?_
    refine .jn (ι := Unit) (fun _ => [(0, .pointer (some ⟨b, 0, none⟩)), (4, .pointer (some ⟨b4, 0, none⟩)), (7, .pointer (some ⟨b7, 0, none⟩)), (8, .pointer (some ⟨b8, 0, none⟩))])
      (fun _ => pts b8 (24, nm (e.payer t)) :: pts b7 (24, nm t.id) :: pts b4 (24, nm 0) :: engO b e i cs) (fun _ => True) ?_ fun _ _ => ?_
    · refine .seq ?_
      refine .reg ?_
      refine .fa ?_
      refine .ld (v := .agg (nm t.pid).toArray) ?_
      refine .bz ?_
      refine .nen t.pid 0 ?_
      refine .go ?_
      refine .cond rfl (fun hc => ?_) (fun hc => ?_)   -- t30
      · refine .seq ?_
        refine .reg ?_
        refine .mv ?_
        refine .fa ?_
        refine .ld (v := .agg (nm t.pid).toArray) ?_
        refine .cl (Tr.ef5 (trans_tr b e hnt (by omega) i t.pid κ _)) ?_
        have hpp : t.pid ≠ 0 := by simpa using hc
        have hpe : e.payer t = ((e.transfer t.pid).getD zT).debit := by unfold Eng.payer; rw [if_neg hpp]
        rw [hpe]
        generalize (e.transfer t.pid).getD zT = p at *
        refine .mv ?_
        refine .ex ?_
        refine .ex ?_
        refine .al fun b9 => ?_
        refine .stw ?_
        refine .as ?_
        rw [vc_agg]
        refine .go ?_
        refine .reg ?_
        refine .fa ?_
        refine .ld (v := .agg (nm p.debit).toArray) ?_
        refine .stw ?_
        exact .nil fun aa w hf hs => ⟨(), trivial, hf.to (by repeat (first | exact trivial | refine ⟨rfl, ?_⟩)), hs.pm 12 [1, 2, 4, 6, 7, 8, 9, 10, 11]⟩
      · have hpp : t.pid = 0 := by simpa using hc
        have hpe : e.payer t = t.debit := by unfold Eng.payer; rw [if_pos hpp]
        rw [hpe]
        exact .skip fun aa w hf hs => ⟨(), trivial, hf.to (by repeat (first | exact trivial | refine ⟨rfl, ?_⟩)), hs.pm 11 [0, 1, 3, 5, 6, 7, 8, 9, 10]⟩
    · generalize e.payer t = q at *
      refine .seq ?_
      refine .reg ?_
      refine .mv ?_
      refine .ldw ?_
      refine .cl (Tr.ef3 (rowsE_tr b e hn hr.la hr.lr i hi q κ _)) ?_
      unfold rowsV Eng.rowsOf
      cases hp : posN q e.ids with
      | none => exact absurd hp hpt
      | some j =>
        obtain ⟨hj0, _⟩ := posN_some hp
        have hil : e.ids.length = e.acc.length := by simp [Eng.ids]
        have hlr := hr.lr
        have hj : j < e.rws.length := by omega
        have hjb : j < i.lb.length := by omega
        simp only [Option.map_some, Option.getD_some]
        rw [getD_at hjb, getD_at hj]
        have hll : e.rws[j].length < 100000 := by have := hr.lw _ (List.getElem_mem hj); omega
        refine .sat (fun w hs => (eng_listF [_, _, _] hj hi).1 hs) ?_
        simp only [List.cons_append, List.nil_append]
        have hback : ∀ x w, Sat κ w (lstB i.lb[j] e.rws[j] :: pts b4 x :: engH b e i (rowsP (e.rws.take j) (i.lb.take j) ++ (rowsP (e.rws.drop (j + 1)) (i.lb.drop (j + 1)) ++ cs))) → Sat κ w (pts b4 x :: engO b e i cs) := fun x w hs => (eng_listF [_] hj hi).2 hs
        generalize engH b e i (rowsP (e.rws.take j) (i.lb.take j) ++ (rowsP (e.rws.drop (j + 1)) (i.lb.drop (j + 1)) ++ cs)) = R at *
        generalize i.lb[j] = bj at *
        generalize e.rws[j] = rs at *
        refine .as ?_
        refine .go ?_
        refine .seq ?_
        refine .seq ?_
        refine .reg ?_
        refine .mv ?_
        refine .cl (rlenB_tr bj rs κ _) ?_
        refine .mv ?_
        refine .go ?_
        refine .block ?_
        refine .lp (fun k : Nat => [(0, .pointer (some ⟨b, 0, none⟩)), (4, .pointer (some ⟨b4, 0, none⟩)), (7, .pointer (some ⟨b7, 0, none⟩)), (11, ptrV bj), (44, .int .i64 rs.length), (45, .int .i64 k)])
          (fun _ => lstB bj rs :: pts b8 (24, nm q) :: pts b7 (24, nm t.id) :: pts b4 (24, nm 0) :: R)
          (fun k => k ≤ rs.length ∧ Eng.findRow t.id rs = Eng.findRow t.id (rs.drop k)) (fun k => rs.length - k) 0 (by exact ⟨by omega, rfl⟩) (by repeat (first | exact trivial | refine ⟨rfl, ?_⟩)) rfl fun k hk => ?_
        refine .seq ?_
        refine .reg ?_
        refine .lt ?_
        refine .go ?_
        refine .seq ?_
        refine .cond rfl (fun hc => ?_) (fun hc => ?_)   -- t46
        · have hlt : k < rs.length := by have : (k : Int) < rs.length := of_decide_eq_true hc; omega
          have hdr := List.drop_eq_getElem_cons hlt
          refine .go ?_
          refine .seq ?_
          refine .block ?_
          refine .seq ?_
          refine .reg ?_
          refine .mv ?_
          refine .as ?_
          refine .go ?_
          refine .seq ?_
          refine .reg ?_
          refine .mv ?_
          refine .mv ?_
          refine .cl (ratB_tr bj rs k hlt hll κ _) ?_
          have hfr := hk.2
          rw [hdr] at hfr
          generalize rs[k] = r at *
          refine .al fun b13 => ?_
          refine .stw ?_
          refine .go ?_
          refine .seq ?_
          rw [vc_agg]
          refine .reg ?_
          refine .fa ?_
          refine .ld (v := .agg (nm r.tr).toArray) ?_
          refine .ldw ?_
          refine .eqn r.tr t.id ?_
          by_cases h1 : r.tr = t.id
          · rw [decide_eq_true h1]
            refine .mv ?_
            refine .fa ?_
            refine .ld (v := .int .i64 r.event) ?_
            refine .ge ?_
            first | refine .pt ?_ | refine .pf ?_
            refine .go ?_
            refine .cond rfl (fun hc => ?_) (fun hc => ?_)   -- t59
            · refine .seq ?_
              refine .reg ?_
              refine .fa ?_
              refine .ld (v := .agg (nm r.amount).toArray) ?_
              refine .stw ?_
              refine .go ?_
              refine .r1 fun w hs => ?_
              rw [hfr]
              have h2 : r.event ≥ 0 := of_decide_eq_true hc
              rw [show Eng.findRow t.id (r :: rs.drop (k + 1)) = r.amount from if_pos ⟨h1, h2⟩]
              exact ⟨rfl, (hback _ w (hs.pm 5 [1, 4])).rows⟩
            · have h2 : ¬ r.event ≥ 0 := of_decide_eq_false hc
              refine .go ?_
              refine .reg ?_
              refine .ad ?_
              refine .mv ?_
              exact .nil fun aa w hf hs => ⟨k + 1, ⟨by omega, hfr.trans (if_neg fun h => h2 h.2)⟩, by omega, hf.to (by repeat (first | exact trivial | refine ⟨rfl, ?_⟩)), hs.rows⟩
          · rw [decide_eq_false h1]
            refine .mv ?_
            repeat refine .skip ?_
            repeat refine .skip ?_
            first | refine .pt ?_ | refine .pf ?_
            refine .go ?_
            refine .cond rfl (fun hc => by cases hc) (fun hc => ?_)
            refine .go ?_
            refine .reg ?_
            refine .ad ?_
            refine .mv ?_
            exact .nil fun aa w hf hs => ⟨k + 1, ⟨by omega, hfr.trans (if_neg fun h => h1 h.1)⟩, by omega, hf.to (by repeat (first | exact trivial | refine ⟨rfl, ?_⟩)), hs.rows⟩
        · have hge : ¬ k < rs.length := by intro h; have := of_decide_eq_false hc; omega
          have hfr := hk.2
          rw [List.drop_of_length_le (by omega), show Eng.findRow t.id [] = 0 from rfl] at hfr
          rw [hfr]
          refine .xgo ?_
          refine .seq ?_
          refine .reg ?_
          refine .bz ?_
          refine .stw ?_
          refine .go ?_
          refine .r1 fun w hs => ?_
          exact ⟨rfl, (hback _ w (hs.pm 4 [0, 3])).rows⟩
end Go.Proofs.YtpcechnalfaajaaDoor

/- u128.Least. -/
namespace Go.Proofs.YtpcechnalfaajaaDoor
open Go Go.Proofs

theorem cmp_lt (a b : Num) : decide (cmpN a b < (0 : Int)) = decide (a.toNat < b.toNat) := by
  rcases cmp_ways a b with ⟨h, e⟩ | ⟨h, e⟩ | ⟨h, e⟩ <;> rw [e, decide_eq_decide] <;> omega
theorem least_step (x m : Num) : (if leastN.cmpZ x m < 0 then x else m) = if x.toNat < m.toNat then x else m := by
  have : leastN.cmpZ x m < 0 ↔ x.toNat < m.toNat := by
    unfold leastN.cmpZ
    split
    · rename_i h; simp [h]
    · rename_i h; split <;> simp [h]
  simp only [this]
theorem least_tr (xs : List Num) (hl : xs.length < 2147483648) (p : Option Addr) (cap : Nat) (κ : Kap) (cs : List HProp) (hr : RdS cs p (xs.flatMap nm)) :
    Tr Tryd.prog 23 [.slice p xs.length cap] κ cs (.agg (nm (leastN xs)).toArray) cs := by
  refine .enter Tryd.func23 rfl rfl ?_
  refine .seq ?_
  refine .reg ?_
  refine .al fun b2 => ?_
  refine .go ?_
  refine .seq ?_
  refine .reg ?_
  refine .cl (max_tr κ _) ?_
  refine .al fun b3 => ?_
  refine .stw ?_
  refine .go ?_
  refine .seq ?_
  refine .seq ?_
  refine .reg ?_
  refine .mv ?_
  refine .ln ?_
  refine .mv ?_
  refine .go ?_
  refine .block ?_
  rw [vc_agg]
  refine .lp (fun i : Nat => [(2, .pointer (some ⟨b2, 0, none⟩)), (3, .pointer (some ⟨b3, 0, none⟩)), (7, .slice p xs.length cap), (8, .int .i64 xs.length), (9, .int .i64 i)])
    (fun i => pts b3 (24, nm (leastN (xs.take i))) :: pts b2 (24, nm 0) :: cs) (fun i => i ≤ xs.length) (fun i => xs.length - i) 0 (by omega) (by repeat (first | exact trivial | refine ⟨rfl, ?_⟩)) rfl fun i hi => ?_
  refine .seq ?_
  refine .reg ?_
  refine .lt ?_
  refine .go ?_
  refine .seq ?_
  refine .cond rfl (fun hc => ?_) (fun hc => ?_)   -- t10
  · have hlt : i < xs.length := by simpa using hc
    rcases hr with hr | ⟨b, o, rfl, hr⟩
    · have : xs.length = 0 := by
        cases xs with
        | nil => rfl
        | cons x t => simp [nm] at hr
      omega
    refine .go ?_
    refine .seq ?_
    refine .block ?_
    refine .seq ?_
    refine .reg ?_
    refine .ix ?_
    refine .lx (flat_get nm 2 nm_len xs i 0 2 true (.agg (nm xs[i]).toArray) hlt rfl) ?_
    have hst : leastN (xs.take (i + 1)) = if xs[i].toNat < (leastN (xs.take i)).toNat then xs[i] else leastN (xs.take i) := by
      rw [List.take_succ_eq_append_getElem hlt]
      unfold leastN
      rw [List.foldl_append]
      exact least_step _ _
    generalize hy : xs[i] = y at *
    generalize leastN (xs.take i) = m at *
    refine .al fun b5 => ?_
    refine .stw ?_
    refine .go ?_
    rw [vc_agg]
    refine .seq ?_
    refine .reg ?_
    refine .ldw ?_
    refine .ldw ?_
    refine .cl (compare_tr y m κ _) ?_
    refine .lt ?_
    rw [cmp_lt]
    refine .go ?_
    refine .cond rfl (fun hc => ?_) (fun hc => ?_)   -- t16
    · have hc := of_decide_eq_true hc
      rw [if_pos hc] at hst
      refine .reg ?_
      refine .ldw ?_
      refine .stw ?_
      refine .go ?_
      refine .reg ?_
      refine .ad ?_
      refine .mv ?_
      refine .nil fun aa w hf hs => ⟨i + 1, by omega, by omega, hf.to (by repeat (first | exact trivial | refine ⟨rfl, ?_⟩)), ?_⟩
      rw [hst]
      exact hs.rows
    · have hc := of_decide_eq_false hc
      rw [if_neg hc] at hst
      refine .go ?_
      refine .reg ?_
      refine .ad ?_
      refine .mv ?_
      refine .nil fun aa w hf hs => ⟨i + 1, by omega, by omega, hf.to (by repeat (first | exact trivial | refine ⟨rfl, ?_⟩)), ?_⟩
      rw [hst]
      exact hs.rows
  · refine .xgo ?_
    have hge : i = xs.length := by have := of_decide_eq_false hc; omega
    subst hge
    rw [List.take_length]
    refine .seq ?_
    refine .reg ?_
    refine .ldw ?_
    refine .stw ?_
    refine .go ?_
    refine .r1 fun w hs => ?_
    exact ⟨rfl, hs.rows.rows⟩
theorem least2_tr (x y : Num) (b : Nat) (κ : Kap) (cs : List HProp) [h : RdAt b cs 0 [.int .u64 ((x.toNat / 18446744073709551616 : Nat) : Int), .int .u64 ((x.toNat % 18446744073709551616 : Nat) : Int), .int .u64 ((y.toNat / 18446744073709551616 : Nat) : Int), .int .u64 ((y.toNat % 18446744073709551616 : Nat) : Int)]] :
    Tr Tryd.prog 23 [.slice (some ⟨b, 0, none⟩) 2 2] κ cs (.agg (nm (leastN [x, y])).toArray) cs :=
  least_tr [x, y] (by simp) _ 2 κ cs (.inr ⟨b, 0, rfl, h⟩)
end Go.Proofs.YtpcechnalfaajaaDoor

/- engine: first. -/
namespace Go.Proofs.YtpcechnalfaajaaDoor
open Go Go.Proofs

def pendT (t : Transfer) : Bool := decide (band t.flags 2 ≠ 0)
def firX (t : Transfer) (n : Num) (x : Account) : Account := if pendT t then { x with dp := addN [x.dp, n] } else { x with dq := addN [x.dq, n] }
def firY (t : Transfer) (n : Num) (y : Account) : Account := if pendT t then { y with cp := addN [y.cp, n] } else { y with cq := addN [y.cq, n] }
def firO (t : Transfer) (n : Num) (x : Account) : Bool := if pendT t then fitN [x.dp, n] else fitN [x.dq, n]
def firI (t : Transfer) (n : Num) (y : Account) : Bool := if pendT t then fitN [y.cp, n] else fitN [y.cq, n]
def firC (t : Transfer) (m : Int) (x : Account) : Account := if band t.flags m ≠ 0 then { x with flags := bor x.flags 8 } else x
theorem first_eq (e : Eng) (t : Transfer) (d c : Nat) {x0 y0 x y : Account} {n : Num} {ok is : Bool} (hx0 : e.acc.getD d zA = x0) (hy0 : e.acc.getD c zA = y0) (hn : Eng.firstAmount t x0 y0 = n)
    (hx : firX t n x0 = x) (hy : firY t n y0 = y) (ho : firO t n x0 = ok) (hi : firI t n y0 = is) : e.first t d c =
    if ok = false ∨ is = false ∨ fitN [x.dp, x.dq] = false ∨ fitN [y.cp, y.cq] = false then (e, 28) else if withinA x = false then (e, 29) else if withinA y = false then (e, 30)
    else (({ e with acc := (e.acc.set d (firC t 64 x)).set c (firC t 128 y) }).add { t with state := if pendT t then 1 else 0 } n d c, 0) := by
  subst hx0 hy0 hn hx hy ho hi
  rfl
set_option maxHeartbeats 1000000 in
theorem first_tr (b : Nat) (e : Eng) (i : EngI) (hi : i.lb.length = e.rws.length) (t : Transfer) (d c : Nat) (hd : d < e.acc.length) (hc : c < e.acc.length) (hr : RowOk e) (hlt : ∀ l ∈ e.rws, l.length + 2 < 90000) (hn : e.tids.Nodup) (htl : e.trs.length < 600)
    (htm : -1000000000000 ≤ e.time ∧ e.time ≤ 1000000000000) (hev : -1000000000000 ≤ bclr t.flags 1 ∧ bclr t.flags 1 ≤ 1000000000000) (κ : Kap) (hκ : Laid κ) (cs : List HProp) :
    Te Tryd.prog 65 [.pointer (some ⟨b, 0, none⟩), .agg (encT t).toArray, .int .i64 d, .int .i64 c] κ (engO b e i cs) (fun i' : EngI => i'.lb.length = e.rws.length) (fun _ => .int .i64 (e.first t d c).2) (fun i' => engO b (e.first t d c).1 i' cs) := by
  refine .enter Tryd.func65 rfl rfl ?_
  refine .slp (p := i.pa) (cap := i.ca) (sz := 46) (n0 := e.acc.length) (by omega) (fun ba hba _ => ?_)
  have hx0 : e.acc.getD d zA = e.acc[d] := getD_at hd
  have hy0 : e.acc.getD c zA = e.acc[c] := getD_at hc
  refine .seq ?_
  refine .reg ?_
  refine .bx fun b5 => ?_
  refine .as ?_
  refine .go ?_
  refine .seq ?_
  refine .reg ?_
  refine .fa ?_
  rw [vc_agg]
  refine .ld (v := .agg (nm t.amount).toArray) ?_
  refine .al fun b9 => ?_
  refine .stw ?_
  refine .go ?_
  rw [vc_agg]
  refine .jn (ι := Unit) (fun _ => [(0, .pointer (some ⟨b, 0, none⟩)), (2, .int .i64 d), (3, .int .i64 c), (5, .pointer (some ⟨b5, 0, none⟩)), (8, .int .i64 0), (9, .pointer (some ⟨b9, 0, none⟩))])
    (fun _ => pts b9 (24, nm (if band t.flags 48 ≠ 0 ∧ t.amount = 0 then BitVec.allOnes 128 else t.amount)) :: pts b5 (43, encT t) :: engO b e i cs) (fun _ => True) ?_ fun _ _ => ?_
  · refine .seq ?_
    refine .reg ?_
    refine .fa ?_
    refine .ld (v := .int .i64 t.flags) ?_
    refine .an ?_
    refine .ne ?_
    refine .mv ?_
    by_cases h1 : band t.flags 48 ≠ 0
    · rw [decide_eq_true h1]
      refine .ldw ?_
      refine .bz ?_
      refine .eqn t.amount 0 ?_
      first | refine .pt ?_ | refine .pf ?_
      refine .go ?_
      refine .cond rfl (fun hc => ?_) (fun hc => ?_)   -- t28
      · rw [if_pos ⟨h1, of_decide_eq_true hc⟩]
        refine .reg ?_
        refine .cl (max_tr κ _) ?_
        refine .stw ?_
        exact .nil fun aa w hf hs => ⟨(), trivial, hf.to (by repeat (first | exact trivial | refine ⟨rfl, ?_⟩)), hs⟩
      · rw [if_neg fun h => of_decide_eq_false hc h.2]
        exact .skip fun aa w hf hs => ⟨(), trivial, hf.to (by repeat (first | exact trivial | refine ⟨rfl, ?_⟩)), hs⟩
    · rw [decide_eq_false h1, if_neg fun h => h1 h.1]
      repeat refine .skip ?_
      repeat refine .skip ?_
      repeat refine .skip ?_
      first | refine .pt ?_ | refine .pf ?_
      refine .go ?_
      refine .cond rfl (fun hc => by cases hc) (fun hc => ?_)
      exact .skip fun aa w hf hs => ⟨(), trivial, hf.to (by repeat (first | exact trivial | refine ⟨rfl, ?_⟩)), hs⟩
  have hfa : Eng.firstAmount t (e.acc.getD d zA) (e.acc.getD c zA) = (let n := if band t.flags 48 ≠ 0 ∧ t.amount = 0 then BitVec.allOnes 128 else t.amount
    let n := if band t.flags 16 ≠ 0 then leastN [n, roomN e.acc[d] true] else n
    if band t.flags 32 ≠ 0 then leastN [n, roomN e.acc[c] false] else n) := by rw [hx0, hy0]; rfl
  generalize (if band t.flags 48 ≠ 0 ∧ t.amount = 0 then BitVec.allOnes 128 else t.amount) = n1 at *
  refine .jn (ι := Unit) (fun _ => [(0, .pointer (some ⟨b, 0, none⟩)), (2, .int .i64 d), (3, .int .i64 c), (5, .pointer (some ⟨b5, 0, none⟩)), (8, .int .i64 0), (9, .pointer (some ⟨b9, 0, none⟩))])
    (fun _ => pts b9 (24, nm (if band t.flags 16 ≠ 0 then leastN [n1, roomN e.acc[d] true] else n1)) :: pts b5 (43, encT t) :: engO b e i cs) (fun _ => True) ?_ fun _ _ => ?_
  · refine .seq ?_
    refine .reg ?_
    refine .fa ?_
    refine .ld (v := .int .i64 t.flags) ?_
    refine .an ?_
    refine .ne ?_
    refine .go ?_
    refine .cond rfl (fun hc => ?_) (fun hc => ?_)
    · have h1 := of_decide_eq_true hc
      rw [if_pos h1]
      unfold engO engH
      rw [hba]
      have hA : ∀ (cs : List HProp) [RdAt ba cs 0 (e.acc.flatMap encA)], RdAt ba cs (0 + ((d : Nat) : Int).toNat * 46) (encA e.acc[d]) := fun cs h => h.sub encA_len d hd
      generalize e.acc[d] = x0 at *
      refine .regD [(b9, 0, nm n1), (b, 0, [.slice (some ⟨ba, 0, none⟩) e.acc.length i.ca, .slice i.pt e.trs.length i.ct, .slice i.pr i.lb.length i.cr, ptrV i.bA, ptrV i.bI, .int .i64 e.time, .int .i64 e.now]), (ba, 0 + ((d : Nat) : Int).toNat * 46, encA x0)] [12] ?_
      refine .ldw 0 ?_
      refine .mv 1 ?_
      refine .nc 2 ?_
      refine .fa 3 ?_
      refine .fa 4 ?_
      refine .ld 5 ?_
      refine .mv 6 ?_
      refine .ix 7 ?_
      refine .lx 8 (getV_whole (encA_len x0)) ?_
      refine .cl 9 (room_tr x0 true κ _) ?_
      refine .bs 10 fun b44 => ?_
      refine .cl 11 (least2_tr n1 (roomN x0 true) b44 κ _) ?_
      refine .stw 12 ?_
      exact .nil fun aa w hf hs => ⟨(), trivial, hf.to (by repeat (first | exact trivial | refine ⟨rfl, ?_⟩)), hs.pm 2 [1]⟩
    · rw [if_neg (of_decide_eq_false hc)]
      exact .skip fun aa w hf hs => ⟨(), trivial, hf.to (by repeat (first | exact trivial | refine ⟨rfl, ?_⟩)), hs⟩
  simp only at hfa
  generalize (if band t.flags 16 ≠ 0 then leastN [n1, roomN e.acc[d] true] else n1) = n2 at *
  refine .jn (ι := Unit) (fun _ => [(0, .pointer (some ⟨b, 0, none⟩)), (2, .int .i64 d), (3, .int .i64 c), (5, .pointer (some ⟨b5, 0, none⟩)), (8, .int .i64 0), (9, .pointer (some ⟨b9, 0, none⟩))])
    (fun _ => pts b9 (24, nm (if band t.flags 32 ≠ 0 then leastN [n2, roomN e.acc[c] false] else n2)) :: pts b5 (43, encT t) :: engO b e i cs) (fun _ => True) ?_ fun _ _ => ?_
  · refine .seq ?_
    refine .reg ?_
    refine .fa ?_
    refine .ld (v := .int .i64 t.flags) ?_
    refine .an ?_
    refine .ne ?_
    refine .go ?_
    refine .cond rfl (fun hc => ?_) (fun hc => ?_)
    · have h1 := of_decide_eq_true hc
      rw [if_pos h1]
      unfold engO engH
      rw [hba]
      have hA : ∀ (cs : List HProp) [RdAt ba cs 0 (e.acc.flatMap encA)], RdAt ba cs (0 + ((c : Nat) : Int).toNat * 46) (encA e.acc[c]) := fun cs h => h.sub encA_len c ‹c < e.acc.length›
      generalize e.acc[c] = x0 at *
      refine .regD [(b9, 0, nm n2), (b, 0, [.slice (some ⟨ba, 0, none⟩) e.acc.length i.ca, .slice i.pt e.trs.length i.ct, .slice i.pr i.lb.length i.cr, ptrV i.bA, ptrV i.bI, .int .i64 e.time, .int .i64 e.now]), (ba, 0 + ((c : Nat) : Int).toNat * 46, encA x0)] [12] ?_
      refine .ldw 0 ?_
      refine .mv 1 ?_
      refine .nc 2 ?_
      refine .fa 3 ?_
      refine .fa 4 ?_
      refine .ld 5 ?_
      refine .mv 6 ?_
      refine .ix 7 ?_
      refine .lx 8 (getV_whole (encA_len x0)) ?_
      refine .cl 9 (room_tr x0 false κ _) ?_
      refine .bs 10 fun b60 => ?_
      refine .cl 11 (least2_tr n2 (roomN x0 false) b60 κ _) ?_
      refine .stw 12 ?_
      exact .nil fun aa w hf hs => ⟨(), trivial, hf.to (by repeat (first | exact trivial | refine ⟨rfl, ?_⟩)), hs.pm 2 [1]⟩
    · rw [if_neg (of_decide_eq_false hc)]
      exact .skip fun aa w hf hs => ⟨(), trivial, hf.to (by repeat (first | exact trivial | refine ⟨rfl, ?_⟩)), hs⟩
  generalize (if band t.flags 32 ≠ 0 then leastN [n2, roomN e.acc[c] false] else n2) = n at *
  refine .jn (ι := Nat × Nat) (fun q => [(0, .pointer (some ⟨b, 0, none⟩)), (2, .int .i64 d), (3, .int .i64 c), (5, .pointer (some ⟨b5, 0, none⟩)), (8, .int .i64 0), (9, .pointer (some ⟨b9, 0, none⟩)), (10, .pointer (some ⟨q.1, 0, none⟩)), (11, .pointer (some ⟨q.2, 0, none⟩))])
    (fun q => pts q.2 (37, encA e.acc[c]) :: pts q.1 (37, encA e.acc[d]) :: pts b9 (24, nm n) :: pts b5 (43, encT t) :: engO b e i cs) (fun _ => True) ?_ fun q _ => ?_
  · unfold engO engH
    rw [hba]
    have hgd : getV true (e.acc.flatMap encA) (((d : Nat) : Int).toNat * 46) 46 = some (.agg (encA e.acc[d]).toArray) := flat_get encA 46 encA_len e.acc d 0 46 true _ hd (getV_whole (encA_len _))
    have hgc : getV true (e.acc.flatMap encA) (((c : Nat) : Int).toNat * 46) 46 = some (.agg (encA e.acc[c]).toArray) := flat_get encA 46 encA_len e.acc c 0 46 true _ hc (getV_whole (encA_len _))
    generalize e.acc[d] = x0 at *
    generalize e.acc[c] = y0 at *
    refine .regD [(b, 0, [.slice (some ⟨ba, 0, none⟩) e.acc.length i.ca, .slice i.pt e.trs.length i.ct, .slice i.pr i.lb.length i.cr, ptrV i.bA, ptrV i.bI, .int .i64 e.time, .int .i64 e.now]), (ba, 0, e.acc.flatMap encA)] [] ?_
    refine .mv 0 ?_
    refine .nc 1 ?_
    refine .fa 2 ?_
    refine .fa 3 ?_
    refine .ld 4 ?_
    refine .mv 5 ?_
    refine .ix 6 ?_
    refine .lx 7 hgd ?_
    refine .mv 8 ?_
    refine .nc 9 ?_
    refine .fa 10 ?_
    refine .fa 11 ?_
    refine .ld 12 ?_
    refine .mv 13 ?_
    refine .ix 14 ?_
    refine .lx 15 hgc ?_
    have hx46 : (encA x0).length = 46 := encA_len _
    have hy46 : (encA y0).length = 46 := encA_len _
    have hx1 : one (encA x0) = true := encA_one _
    have hy1 : one (encA y0) = true := encA_one _
    generalize encA x0 = X at *
    generalize encA y0 = Y at *
    refine .pend ?_
    refine .al 17 ?_
    refine .al 16 ?_
    refine .com fun b10 => ?_
    refine .com fun b11 => ?_
    refine .dn ?_
    refine .stw 18 (v := .agg X.toArray) ?_ (h := ⟨rfl, rfl, inferInstance, inferInstance, ⟨hx46, rfl⟩, hx1, rfl⟩)
    refine .stw 19 (v := .agg Y.toArray) ?_ (h := ⟨rfl, rfl, inferInstance, inferInstance, ⟨hy46, rfl⟩, hy1, rfl⟩)
    exact .nil fun aa w hf hs => ⟨(b10, b11), trivial, hf.to (by repeat (first | exact trivial | refine ⟨rfl, ?_⟩)), hs⟩
  generalize q.1 = b10 at *
  generalize q.2 = b11 at *
  refine .seq ?_
  refine .reg ?_
  refine .as ?_
  refine .as ?_
  refine .go ?_
  rw [hx0, hy0] at hfa
  have key := first_eq e t d c hx0 hy0 hfa rfl rfl rfl rfl
  generalize e.acc[d] = x0 at *
  generalize e.acc[c] = y0 at *
  refine .jn (ι := Unit) (fun _ => [(0, .pointer (some ⟨b, 0, none⟩)), (2, .int .i64 d), (3, .int .i64 c), (5, .pointer (some ⟨b5, 0, none⟩)), (8, .int .i64 0), (9, .pointer (some ⟨b9, 0, none⟩)), (10, .pointer (some ⟨b10, 0, none⟩)), (11, .pointer (some ⟨b11, 0, none⟩)), (12, .bool (firO t n x0)), (13, .bool (firI t n y0))])
    (fun _ => pts b11 (37, encA (firY t n y0)) :: pts b10 (37, encA (firX t n x0)) :: pts b9 (24, nm n) :: pts b5 (43, encT t) :: engO b e i cs) (fun _ => True) ?_ fun _ _ => ?_
  · refine .seq ?_
    refine .reg ?_
    refine .fa ?_
    refine .ld (v := .int .i64 t.flags) ?_
    refine .an ?_
    refine .ne ?_
    refine .go ?_
    refine .cond rfl (fun hc => ?_) (fun hc => ?_)
    · have e1 : firX t n x0 = { x0 with dp := addN [x0.dp, n] } := if_pos hc
      have e2 : firY t n y0 = { y0 with cp := addN [y0.cp, n] } := if_pos hc
      have e3 : firO t n x0 = fitN [x0.dp, n] := if_pos hc
      have e4 : firI t n y0 = fitN [y0.cp, n] := if_pos hc
      rw [e1, e2, e3, e4]
      refine .seq ?_
      refine .reg ?_
      refine .fa ?_
      refine .ld (v := .agg (nm x0.dp).toArray) ?_
      refine .ldw ?_
      refine .bs fun b86 => ?_
      refine .cl (add2_tr x0.dp n b86 κ _) ?_
      refine .mv ?_
      refine .ex ?_
      refine .ex ?_
      refine .fa ?_
      refine .sx (r' := encA { x0 with dp := addN [x0.dp, n] }) rfl ?_
      refine .as ?_
      refine .go ?_
      refine .reg ?_
      refine .fa ?_
      refine .ld (v := .agg (nm y0.cp).toArray) ?_
      refine .ldw ?_
      refine .bs fun b95 => ?_
      refine .cl (add2_tr y0.cp n b95 κ _) ?_
      refine .mv ?_
      refine .ex ?_
      refine .ex ?_
      refine .fa ?_
      refine .sx (r' := encA { y0 with cp := addN [y0.cp, n] }) rfl ?_
      refine .as ?_
      refine .nil fun aa w hf hs => ⟨(), trivial, hf.to (by repeat (first | exact trivial | refine ⟨rfl, ?_⟩)), ?_⟩
      exact hs.rows.rows
    · have hc1 : ¬ pendT t = true := fun h => by rw [show pendT t = false from hc] at h; cases h
      have e1 : firX t n x0 = { x0 with dq := addN [x0.dq, n] } := if_neg hc1
      have e2 : firY t n y0 = { y0 with cq := addN [y0.cq, n] } := if_neg hc1
      have e3 : firO t n x0 = fitN [x0.dq, n] := if_neg hc1
      have e4 : firI t n y0 = fitN [y0.cq, n] := if_neg hc1
      rw [e1, e2, e3, e4]
      refine .seq ?_
      refine .reg ?_
      refine .fa ?_
      refine .ld (v := .agg (nm x0.dq).toArray) ?_
      refine .ldw ?_
      refine .bs fun b104 => ?_
      refine .cl (add2_tr x0.dq n b104 κ _) ?_
      refine .mv ?_
      refine .ex ?_
      refine .ex ?_
      refine .fa ?_
      refine .sx (r' := encA { x0 with dq := addN [x0.dq, n] }) rfl ?_
      refine .as ?_
      refine .go ?_
      refine .reg ?_
      refine .fa ?_
      refine .ld (v := .agg (nm y0.cq).toArray) ?_
      refine .ldw ?_
      refine .bs fun b113 => ?_
      refine .cl (add2_tr y0.cq n b113 κ _) ?_
      refine .mv ?_
      refine .ex ?_
      refine .ex ?_
      refine .fa ?_
      refine .sx (r' := encA { y0 with cq := addN [y0.cq, n] }) rfl ?_
      refine .as ?_
      refine .nil fun aa w hf hs => ⟨(), trivial, hf.to (by repeat (first | exact trivial | refine ⟨rfl, ?_⟩)), ?_⟩
      exact hs.rows.rows
  have hxi : (firX t n x0).id = x0.id := by unfold firX; split <;> rfl
  have hyi : (firY t n y0).id = y0.id := by unfold firY; split <;> rfl
  generalize firX t n x0 = x at *
  generalize firY t n y0 = y at *
  generalize firO t n x0 = ok at *
  generalize firI t n y0 = is at *
  refine .seq ?_
  refine .reg ?_
  refine .fa ?_
  refine .ld (v := .agg (nm x.dp).toArray) ?_
  refine .fa ?_
  refine .ld (v := .agg (nm x.dq).toArray) ?_
  refine .bs fun b123 => ?_
  refine .cl (add2_tr x.dp x.dq b123 κ _) ?_
  refine .mv ?_
  refine .ex ?_
  refine .ex ?_
  refine .al fun b14 => ?_
  refine .stw ?_
  refine .as ?_
  refine .go ?_
  refine .seq ?_
  refine .reg ?_
  refine .fa ?_
  refine .ld (v := .agg (nm y.cp).toArray) ?_
  refine .fa ?_
  refine .ld (v := .agg (nm y.cq).toArray) ?_
  refine .bs fun b132 => ?_
  refine .cl (add2_tr y.cp y.cq b132 κ _) ?_
  refine .mv ?_
  refine .ex ?_
  refine .ex ?_
  refine .al fun b16 => ?_
  refine .stw ?_
  refine .as ?_
  refine .go ?_
  refine .pm 4 [] ?_
  refine .seq ?_
  refine .block ?_
  refine .seq ?_
  refine .reg ?_
  refine .mv ?_
  refine .nt ?_
  refine .mv ?_
  generalize fitN [x.dp, x.dq] = f1 at *
  generalize fitN [y.cp, y.cq] = f2 at *
  cases ok with
  | false =>
    repeat refine .skip ?_
    repeat refine .skip ?_
    first | refine .pt ?_ | refine .pf ?_
    refine .mv ?_
    repeat refine .skip ?_
    repeat refine .skip ?_
    first | refine .pt ?_ | refine .pf ?_
    refine .mv ?_
    repeat refine .skip ?_
    repeat refine .skip ?_
    first | refine .pt ?_ | refine .pf ?_
    refine .as ?_
    refine .go ?_
    refine .cond rfl (fun hc => ?_) (fun hc => by cases hc)
    refine .seq ?_
    refine .reg ?_
    refine .as ?_
    refine .go ?_
    refine .r1 fun w hs => ?_
    have k2 : e.first t d c = (e, 28) := key.trans (if_pos (.inl rfl))
    rw [k2]
    exact ⟨i, hi, rfl, hs.pm 4 []⟩
  | true =>
  refine .mv ?_
  refine .nt ?_
  first | refine .pt ?_ | refine .pf ?_
  refine .mv ?_
  cases is with
  | false =>
    repeat refine .skip ?_
    repeat refine .skip ?_
    first | refine .pt ?_ | refine .pf ?_
    refine .mv ?_
    repeat refine .skip ?_
    repeat refine .skip ?_
    first | refine .pt ?_ | refine .pf ?_
    refine .as ?_
    refine .go ?_
    refine .cond rfl (fun hc => ?_) (fun hc => by cases hc)
    refine .seq ?_
    refine .reg ?_
    refine .as ?_
    refine .go ?_
    refine .r1 fun w hs => ?_
    have k2 : e.first t d c = (e, 28) := key.trans (if_pos (.inr (.inl rfl)))
    rw [k2]
    exact ⟨i, hi, rfl, hs.pm 4 []⟩
  | true =>
  refine .mv ?_
  refine .nt ?_
  first | refine .pt ?_ | refine .pf ?_
  refine .mv ?_
  cases f1 with
  | false =>
    repeat refine .skip ?_
    repeat refine .skip ?_
    first | refine .pt ?_ | refine .pf ?_
    refine .as ?_
    refine .go ?_
    refine .cond rfl (fun hc => ?_) (fun hc => by cases hc)
    refine .seq ?_
    refine .reg ?_
    refine .as ?_
    refine .go ?_
    refine .r1 fun w hs => ?_
    have k2 : e.first t d c = (e, 28) := key.trans (if_pos (.inr (.inr (.inl rfl))))
    rw [k2]
    exact ⟨i, hi, rfl, hs.pm 4 []⟩
  | true =>
  refine .mv ?_
  refine .nt ?_
  first | refine .pt ?_ | refine .pf ?_
  refine .as ?_
  refine .go ?_
  cases f2 with
  | false =>
    skip
    refine .cond rfl (fun hc => ?_) (fun hc => by cases hc)
    refine .seq ?_
    refine .reg ?_
    refine .as ?_
    refine .go ?_
    refine .r1 fun w hs => ?_
    have k2 : e.first t d c = (e, 28) := key.trans (if_pos (.inr (.inr (.inr rfl))))
    rw [k2]
    exact ⟨i, hi, rfl, hs.pm 4 []⟩
  | true =>
  refine .cond rfl (fun hc => by cases hc) (fun hc => ?_)
  have key := key.trans (if_neg fun h => by rcases h with h | h | h | h <;> cases h)
  refine .seq ?_
  refine .reg ?_
  refine .ldw ?_
  refine .cl (within_tr x κ _) ?_
  refine .nt ?_
  refine .as ?_
  refine .go ?_
  generalize withinA x = w1 at *
  cases w1 with
  | false =>
    skip
    refine .cond rfl (fun hc => ?_) (fun hc => by cases hc)
    refine .seq ?_
    refine .reg ?_
    refine .as ?_
    refine .go ?_
    refine .r1 fun w hs => ?_
    have k2 : e.first t d c = (e, 29) := key.trans (if_pos rfl)
    rw [k2]
    exact ⟨i, hi, rfl, hs.pm 4 []⟩
  | true =>
  refine .cond rfl (fun hc => by cases hc) (fun hc => ?_)
  have key := key.trans (if_neg fun h => by cases h)
  refine .seq ?_
  refine .reg ?_
  refine .ldw ?_
  refine .cl (within_tr y κ _) ?_
  generalize withinA y = w2 at *
  refine .nt ?_
  refine .as ?_
  refine .go ?_
  cases w2 with
  | false =>
    skip
    refine .cond rfl (fun hc => ?_) (fun hc => by cases hc)
    refine .seq ?_
    refine .reg ?_
    refine .as ?_
    refine .go ?_
    refine .r1 fun w hs => ?_
    have k2 : e.first t d c = (e, 30) := key.trans (if_pos rfl)
    rw [k2]
    exact ⟨i, hi, rfl, hs.pm 4 []⟩
  | true =>
  refine .cond rfl (fun hc => by cases hc) (fun hc => ?_)
  have key := key.trans (if_neg fun h => by cases h)
  refine .go ?_
  refine .jn (ι := Unit) (fun _ => [(0, .pointer (some ⟨b, 0, none⟩)), (2, .int .i64 d), (3, .int .i64 c), (5, .pointer (some ⟨b5, 0, none⟩)), (9, .pointer (some ⟨b9, 0, none⟩)), (10, .pointer (some ⟨b10, 0, none⟩)), (11, .pointer (some ⟨b11, 0, none⟩))])
    (fun _ => pts b11 (37, encA y) :: pts b10 (37, encA (firC t 64 x)) :: pts b9 (24, nm n) :: pts b5 (43, encT t) :: engO b e i cs) (fun _ => True) ?_ fun _ _ => ?_
  · refine .seq ?_
    refine .reg ?_
    refine .fa ?_
    refine .ld (v := .int .i64 t.flags) ?_
    refine .an ?_
    refine .ne ?_
    refine .go ?_
    refine .cond rfl (fun hc => ?_) (fun hc => ?_)
    · rw [show firC t 64 x = { x with flags := bor x.flags 8 } from if_pos (of_decide_eq_true hc)]
      refine .reg ?_
      refine .fa ?_
      refine .ld (v := .int .i64 x.flags) ?_
      refine .or ?_
      refine .fa ?_
      refine .sx (r' := encA { x with flags := bor x.flags 8 }) rfl ?_
      exact .nil fun aa w hf hs => ⟨(), trivial, hf.to (by repeat (first | exact trivial | refine ⟨rfl, ?_⟩)), hs⟩
    · rw [show firC t 64 x = x from if_neg (of_decide_eq_false hc)]
      exact .skip fun aa w hf hs => ⟨(), trivial, hf.to (by repeat (first | exact trivial | refine ⟨rfl, ?_⟩)), hs⟩
  have hxi : (firC t 64 x).id = x0.id := by unfold firC; split <;> exact hxi
  generalize firC t 64 x = x1 at *
  refine .jn (ι := Unit) (fun _ => [(0, .pointer (some ⟨b, 0, none⟩)), (2, .int .i64 d), (3, .int .i64 c), (5, .pointer (some ⟨b5, 0, none⟩)), (9, .pointer (some ⟨b9, 0, none⟩)), (10, .pointer (some ⟨b10, 0, none⟩)), (11, .pointer (some ⟨b11, 0, none⟩))])
    (fun _ => pts b11 (37, encA (firC t 128 y)) :: pts b10 (37, encA x1) :: pts b9 (24, nm n) :: pts b5 (43, encT t) :: engO b e i cs) (fun _ => True) ?_ fun _ _ => ?_
  · refine .seq ?_
    refine .reg ?_
    refine .fa ?_
    refine .ld (v := .int .i64 t.flags) ?_
    refine .an ?_
    refine .ne ?_
    refine .go ?_
    refine .cond rfl (fun hc => ?_) (fun hc => ?_)
    · rw [show firC t 128 y = { y with flags := bor y.flags 8 } from if_pos (of_decide_eq_true hc)]
      refine .reg ?_
      refine .fa ?_
      refine .ld (v := .int .i64 y.flags) ?_
      refine .or ?_
      refine .fa ?_
      refine .sx (r' := encA { y with flags := bor y.flags 8 }) rfl ?_
      exact .nil fun aa w hf hs => ⟨(), trivial, hf.to (by repeat (first | exact trivial | refine ⟨rfl, ?_⟩)), hs⟩
    · rw [show firC t 128 y = y from if_neg (of_decide_eq_false hc)]
      exact .skip fun aa w hf hs => ⟨(), trivial, hf.to (by repeat (first | exact trivial | refine ⟨rfl, ?_⟩)), hs⟩
  have hyi : (firC t 128 y).id = y0.id := by unfold firC; split <;> exact hyi
  generalize firC t 128 y = y1 at *
  generalize he1 : ({ e with acc := (e.acc.set d x1).set c y1 } : Eng) = e1 at *
  have hacc1 : e1.acc = (e.acc.set d x1).set c y1 := by rw [← he1]
  have hl1 : e1.acc.length = e.acc.length := by rw [hacc1]; simp
  have hids : e1.ids = e.ids := by
    have a1 : (e.acc.set d x1).map (·.id) = e.acc.map (·.id) := ids_set (e := e) (by rw [hx0]; exact hxi)
    have a2 : (e.acc.set c y1).map (·.id) = e.acc.map (·.id) := ids_set (e := e) (by rw [hy0]; exact hyi)
    show e1.acc.map (·.id) = _
    rw [hacc1, List.map_set, a1, ← List.map_set, a2]; rfl
  have hp1 : putN (e.acc.flatMap encA) (0 + ((d : Nat) : Int).toNat * 46) (encA x1) = some ((e.acc.set d x1).flatMap encA) := by
    rw [Nat.zero_add]
    exact flat_put (j := d) (k := 0) encA_len hd (putN_all _ _ (by simp))
  have hp2 : putN ((e.acc.set d x1).flatMap encA) (0 + ((c : Nat) : Int).toNat * 46) (encA y1) = some (((e.acc.set d x1).set c y1).flatMap encA) := by
    rw [Nat.zero_add]
    exact flat_put (j := c) (k := 0) encA_len (by simpa using ‹c < e.acc.length›) (putN_all _ _ (by simp))
  rw [← hacc1] at hp2
  refine .jn (ι := Unit) (fun _ => [(0, .pointer (some ⟨b, 0, none⟩)), (2, .int .i64 d), (3, .int .i64 c), (5, .pointer (some ⟨b5, 0, none⟩)), (9, .pointer (some ⟨b9, 0, none⟩))])
    (fun _ => pts b9 (24, nm n) :: pts b5 (43, encT t) :: engO b e1 { i with pa := some ⟨ba, 0, none⟩ } cs) (fun _ => True) ?_ fun _ _ => ?_
  · unfold engO engH
    rw [hba]
    refine .regD [(b, 0, [.slice (some ⟨ba, 0, none⟩) e.acc.length i.ca, .slice i.pt e.trs.length i.ct, .slice i.pr i.lb.length i.cr, ptrV i.bA, ptrV i.bI, .int .i64 e.time, .int .i64 e.now]), (b10, 0, encA x1), (b11, 0, encA y1)] [] ?_
    refine .mv 0 ?_
    refine .nc 1 ?_
    refine .fa 2 ?_
    refine .fa 3 ?_
    refine .ld 4 ?_
    refine .mv 5 ?_
    refine .mv 6 ?_
    refine .nc 7 ?_
    refine .fa 8 ?_
    refine .fa 9 ?_
    refine .ld 10 ?_
    refine .mv 11 ?_
    refine .lx 12 (getV_whole (encA_len x1)) ?_
    refine .lx 13 (getV_whole (encA_len y1)) ?_
    have hx46 : (encA x1).length = 46 := encA_len _
    have hy46 : (encA y1).length = 46 := encA_len _
    have hx1 : one (encA x1) = true := encA_one _
    have hy1 : one (encA y1) = true := encA_one _
    generalize encA x1 = X at *
    generalize encA y1 = Y at *
    refine .ix 14 ?_
    refine .sx 15 (v := .agg X.toArray) hp1 ?_ rfl ⟨rfl, rfl, inferInstance, inferInstance, ⟨hx46, rfl⟩, hx1⟩
    refine .ix 16 ?_
    refine .sx 17 (v := .agg Y.toArray) hp2 ?_ rfl ⟨rfl, rfl, inferInstance, inferInstance, ⟨hy46, rfl⟩, hy1⟩
    refine .nil fun aa w hf hs => ⟨(), trivial, hf.to (by repeat (first | exact trivial | refine ⟨rfl, ?_⟩)), ?_⟩
    have hs := hs.pm 2 []
    rw [hids, hl1]
    subst he1
    exact hs
  have hr1 : RowOk e1 := by rw [← he1]; exact ⟨by simpa using hr.la, by simpa using hr.lr, hr.lw⟩
  have hlt1 : ∀ l ∈ e1.rws, l.length + 2 < 90000 := by rw [← he1]; exact hlt
  have hn1 : e1.tids.Nodup := by rw [← he1]; exact hn
  have ht1 : e1.trs.length < 600 := by rw [← he1]; exact htl
  have hm1 : -1000000000000 ≤ e1.time ∧ e1.time ≤ 1000000000000 := by rw [← he1]; exact htm
  have hw1 : e1.rws.length = e.rws.length := by rw [← he1]
  refine .seq ?_
  refine .reg ?_
  refine .fa ?_
  refine .sx (r' := encT { t with state := 0 }) rfl ?_
  refine .go ?_
  refine .jn (ι := Unit) (fun _ => [(0, .pointer (some ⟨b, 0, none⟩)), (2, .int .i64 d), (3, .int .i64 c), (5, .pointer (some ⟨b5, 0, none⟩)), (9, .pointer (some ⟨b9, 0, none⟩))])
    (fun _ => pts b9 (24, nm n) :: pts b5 (43, encT { t with state := if pendT t then 1 else 0 }) :: engO b e1 { i with pa := some ⟨ba, 0, none⟩ } cs) (fun _ => True) ?_ fun _ _ => ?_
  · refine .seq ?_
    refine .reg ?_
    refine .fa ?_
    refine .ld (v := .int .i64 t.flags) ?_
    refine .an ?_
    refine .ne ?_
    refine .go ?_
    refine .cond rfl (fun hc => ?_) (fun hc => ?_)
    · rw [show (if pendT t = true then (1 : Int) else 0) = 1 from if_pos hc]
      refine .reg ?_
      refine .fa ?_
      refine .sx (r' := encT { t with state := 1 }) rfl ?_
      exact .nil fun aa w hf hs => ⟨(), trivial, hf.to (by repeat (first | exact trivial | refine ⟨rfl, ?_⟩)), hs⟩
    · rw [show (if pendT t = true then (1 : Int) else 0) = 0 from if_neg fun h => by rw [show pendT t = false from hc] at h; cases h]
      exact .skip fun aa w hf hs => ⟨(), trivial, hf.to (by repeat (first | exact trivial | refine ⟨rfl, ?_⟩)), hs⟩
  generalize ht2 : ({ t with state := if pendT t then 1 else 0 } : Transfer) = t2 at *
  have hfl : t2.flags = t.flags := by rw [← ht2]
  refine .seq ?_
  refine .reg ?_
  refine .mv ?_
  refine .ld (v := .agg (encT t2).toArray) ?_
  refine .ldw ?_
  refine .mv ?_
  refine .mv ?_
  refine .sat (cs' := engO b e1 { i with pa := some ⟨ba, 0, none⟩ } cs) (fun w hs => hs.rows.rows) ?_
  refine .ce (eadd_tr b e1 { i with pa := some ⟨ba, 0, none⟩ } (by rw [hw1]; exact hi) t2 n d c (by rw [hl1]; exact hd) (by rw [hl1]; assumption) hr1 hlt1 hn1 ht1 hm1 (by rw [hfl]; exact hev) κ hκ cs) (fun i' hi' => ?_)
  refine .go ?_
  refine .seq ?_
  refine .reg ?_
  refine .as ?_
  refine .go ?_
  refine .r1 fun w hs => ?_
  rw [key]
  exact ⟨i', by rw [hi', hw1], rfl, hs⟩
end Go.Proofs.YtpcechnalfaajaaDoor

/- engine: makeAccount. -/
namespace Go.Proofs.YtpcechnalfaajaaDoor
open Go Go.Proofs

theorem bld_last {z' r : List Value} {pl : List (Nat × Nat)} {i o s : Nat} {v : Value} : ∀ {vs : List (Nat × Value)} {z : List Value}, bld z pl vs = some z' → pl[i]? = some (o, s) → (vc v).length = s → 0 < s → putN z' o (vc v) = some r → bld z pl (vs ++ [(i, v)]) = some r := by
  intro vs
  induction vs with
  | nil =>
    intro z h1 h2 h3 h4 h5
    cases h1
    have h6 : Nat.blt 0 s = true := by simpa [Nat.blt_eq] using h4
    simp [bld, h2, h3, h5, h6]
  | cons x t ih =>
    intro z h1 h2 h3 h4 h5
    obtain ⟨k, u⟩ := x
    simp only [List.cons_append, bld] at h1 ⊢
    split at h1
    · rename_i o' s' hp
      cases hb : Nat.beq (vc u).length s' && Nat.blt 0 s' with
      | false => rw [hb] at h1; cases h1
      | true =>
        rw [hb] at h1
        simp only [cond_true] at h1 ⊢
        split at h1
        · exact ih h1 h2 h3 h4 h5
        · cases h1
    · cases h1
theorem makeAccount_tr (b : Nat) (e : Eng) (i : EngI) (hi : i.lb.length = e.rws.length) (a : Account) (hn : e.ids.Nodup) (hr : RowOk e) (htm : -1000000000000 ≤ e.time ∧ e.time ≤ 1000000000000) (κ : Kap) (hκ : Laid κ) (cs : List HProp) :
    Te Tryd.prog 42 [.pointer (some ⟨b, 0, none⟩), .agg (encA a).toArray] κ (engO b e i cs) (fun i' : EngI => i'.lb.length = (e.makeAccount a).1.rws.length) (fun _ => .int .i64 (e.makeAccount a).2) (fun i' => engO b (e.makeAccount a).1 i' cs) := by
  refine .enter Tryd.func42 rfl rfl ?_
  have hla := hr.la
  have hlr0 := hr.lr
  have hil : e.ids.length = e.acc.length := by simp [Eng.ids]
  refine .seq ?_
  refine .reg ?_
  refine .bx fun b3 => ?_
  refine .as ?_
  refine .go ?_
  refine .seq ?_
  refine .seq ?_
  refine .reg ?_
  rw [vc_agg]
  refine .lx (getV_whole (encA_len a)) ?_
  refine .cl (ruleA_tr a κ _) ?_
  have key : e.makeAccount a = if ruleA a ≠ 0 then (e, ruleA a) else
    match e.account a.id with
    | some old => (e, againA a old)
    | none => if e.acc.length = 32 then (e, 31) else
      ({ e with time := e.time + 1, acc := e.acc ++ [⟨a.id, a.ledger, bclr a.flags 1, 0, 0, 0, 0, e.time + 1, 0, rootN []⟩], rws := e.rws ++ [[]] }, 0) := rfl
  refine .as ?_
  refine .go ?_
  refine .seq ?_
  refine .reg ?_
  refine .mv ?_
  refine .ne ?_
  refine .go ?_
  refine .cond rfl (fun hc => ?_) (fun hc => ?_)   -- t12
  · refine .seq ?_
    refine .reg ?_
    refine .mv ?_
    refine .as ?_
    refine .go ?_
    refine .r1 fun w hs => ?_
    have k2 := key.trans (if_pos (of_decide_eq_true hc))
    rw [k2]
    exact ⟨i, hi, rfl, hs.rows⟩
  have key := key.trans (if_neg (of_decide_eq_false hc))
  refine .go ?_
  refine .seq ?_
  refine .seq ?_
  refine .reg ?_
  refine .mv ?_
  refine .fa ?_
  refine .ld (v := .agg (nm a.id).toArray) ?_
  refine .cl (Tr.ef1 (acct_tr b e hn hla i a.id κ _)) ?_
  cases hp : e.account a.id with
  | some old =>
    rw [hp] at key
    have k2 : e.makeAccount a = (e, againA a old) := key
    rw [k2]
    refine .mv ?_
    refine .ex ?_
    refine .ex ?_
    refine .al fun b6 => ?_
    refine .stw (v := .agg (encA old).toArray) ?_
    rw [vc_agg]
    refine .as ?_
    refine .go ?_
    refine .seq ?_
    refine .reg ?_
    refine .mv ?_
    refine .go ?_
    refine .cond rfl (fun hc => ?_) (fun hc => by cases hc)   -- t21
    refine .seq ?_
    refine .reg ?_
    refine .lx (getV_whole (encA_len a)) ?_
    refine .lx (getV_whole (encA_len old)) ?_
    refine .cl (againA_tr a old κ _) ?_
    refine .as ?_
    refine .go ?_
    refine .r1 fun w hs => ?_
    exact ⟨i, hi, rfl, hs.rows.rows⟩
  | none =>
    rw [hp] at key
    have key : e.makeAccount a = if e.acc.length = 32 then (e, 31) else
      ({ e with time := e.time + 1, acc := e.acc ++ [⟨a.id, a.ledger, bclr a.flags 1, 0, 0, 0, 0, e.time + 1, 0, rootN []⟩], rws := e.rws ++ [[]] }, 0) := key
    refine .mv ?_
    refine .ex ?_
    refine .ex ?_
    refine .al fun b6 => ?_
    refine .stw (v := .agg (encA zA).toArray) ?_
    refine .pm 2 [1] ?_
    refine .as ?_
    refine .go ?_
    refine .seq ?_
    refine .reg ?_
    refine .mv ?_
    refine .go ?_
    refine .cond rfl (fun hc => by cases hc) (fun hc => ?_)   -- t21
    refine .go ?_
    refine .seq ?_
    refine .seq ?_
    refine .reg ?_
    refine .mv ?_
    refine .nc ?_
    refine .fa ?_
    refine .fa ?_
    refine .ld ?_
    refine .ln ?_
    refine .eq ?_
    refine .go ?_
    refine .cond rfl (fun hc => ?_) (fun hc => ?_)   -- t31
    · refine .seq ?_
      refine .reg ?_
      refine .as ?_
      refine .go ?_
      refine .r1 fun w hs => ?_
      have h32 : e.acc.length = 32 := by have := of_decide_eq_true hc; omega
      have k2 := key.trans (if_pos h32)
      rw [k2]
      exact ⟨i, hi, rfl, hs.rows⟩
    have h32 : ¬ e.acc.length = 32 := by have := of_decide_eq_false hc; omega
    have key := key.trans (if_neg h32)
    generalize ha1 : (⟨a.id, a.ledger, bclr a.flags 1, 0, 0, 0, 0, e.time + 1, 0, rootN []⟩ : Account) = a1 at *
    refine .go ?_
    refine .seq ?_
    refine .reg ?_
    refine .mv ?_
    refine .nc ?_
    refine .fa ?_
    refine .ld ?_
    refine .ad ?_
    refine .nc ?_
    refine .fa ?_
    refine .st ?_
    refine .go ?_
    refine .seq ?_
    refine .reg ?_
    refine .bz ?_
    refine .bx fun b40 => ?_
    refine .as ?_
    refine .go ?_
    refine .sat (cs' := lstB b40 [] :: pts b3 (37, encA a) :: pts b (92, [.slice i.pa e.acc.length i.ca, .slice i.pt e.trs.length i.ct, .slice i.pr i.lb.length i.cr, ptrV i.bA, ptrV i.bI, .int .i64 (e.time + 1), .int .i64 e.now]) :: sl 46 (.slice i.pa e.acc.length i.ca) (37, e.acc.flatMap encA) :: sl 16 (.slice i.pt e.trs.length i.ct) (43, e.trs.flatMap encT) :: sl 1 (.slice i.pr i.lb.length i.cr) (72, i.lb.map ptrV) ::
      ixB i.bA (idxOf e.ids) :: ixB i.bI (idxOf e.tids) :: (rowsP e.rws i.lb ++ cs)) (fun w hs => lst_in ((none, 0), (none, 0)) (((hs.nilS 32 35).nilS 14 71).pm 3 [2, 0, 1])) ?_
    refine .seq ?_
    refine .regD [(b, 0, [.slice i.pa e.acc.length i.ca, .slice i.pt e.trs.length i.ct, .slice i.pr i.lb.length i.cr, ptrV i.bA, ptrV i.bI, .int .i64 (e.time + 1), .int .i64 e.now]), (b3, 0, encA a)] [] ?_
    refine .mv 0 ?_
    refine .nc 1 ?_
    refine .fa 2 ?_
    refine .fa 3 ?_
    refine .ld 4 ?_
    refine .fa 5 ?_
    refine .ld 6 (v := .agg (nm a.id).toArray) ?_
    refine .mv 7 ?_
    refine .nc 8 ?_
    refine .fa 9 ?_
    refine .fa 10 ?_
    refine .ld 11 ?_
    refine .ln 12 ?_
    refine .pm 8 [6, 0, 1, 2, 3, 4, 5, 7] ?_
    refine .cl 13 (putB_tr i.bA (idxOf e.ids) (idx_srt hn) (by rw [idx_len hn, hil]; omega) a.id (e.acc.length : Int) κ _) ?_
    rw [← hil, ← idxOf_snoc, hil]
    refine .pm 8 [1, 2, 3, 4, 5, 6, 0, 7] ?_
    refine .go ?_
    refine .seq ?_
    refine .regD [(b, 0, [.slice i.pa e.acc.length i.ca, .slice i.pt e.trs.length i.ct, .slice i.pr i.lb.length i.cr, ptrV i.bA, ptrV i.bI, .int .i64 (e.time + 1), .int .i64 e.now]), (b3, 0, encA a)] [25] ?_
    refine .mv 0 ?_
    refine .mv 1 ?_
    refine .nc 2 ?_
    refine .fa 3 ?_
    refine .fa 4 ?_
    refine .ld 5 ?_
    refine .fa 6 ?_
    refine .ld 7 (v := .agg (nm a.id).toArray) ?_
    refine .fa 8 ?_
    refine .ld 9 (v := .int .i64 a.ledger) ?_
    refine .fa 10 ?_
    refine .ld 11 (v := .int .i64 a.flags) ?_
    refine .ano 12 ?_
    refine .mv 13 ?_
    refine .nc 14 ?_
    refine .fa 15 ?_
    refine .ld 16 ?_
    refine .mv 17 ?_
    refine .cl 18 (rrootB_tr b40 [] (by simp) κ hκ _) ?_
    refine .bd 19 (r := encA a1) ?_ rfl ⟨inferInstance, inferInstance, rfl, by rw [← ha1]; exact bld_last (vs := [(0, .agg (nm a.id).toArray), (1, .int .i64 a.ledger), (2, .int .i64 (bclr a.flags 1)), (7, .int .i64 (e.time + 1))]) (z' := encA ⟨a.id, a.ledger, bclr a.flags 1, 0, 0, 0, 0, e.time + 1, 0, zeroH⟩) (by kernel_rfl) rfl (hcells_len (rootN [])) (by decide) (putA_root _ (rootN []))⟩
    refine .bs1 (v := .agg (encA a1).toArray) (m := 46) 20 (fun b75 => ?_) (encA_len a1)
    rw [vc_agg]
    refine .ap (src := encA a1) (k := 1) (m := 46) 21 (.inr ⟨b75, 0, rfl, .ofRd (h := .head)⟩) (fun p76 c76 => ?_) (encA_len a1) (encA_one a1)
    refine .nc 22 ?_
    refine .fa 23 ?_
    refine .fa 24 ?_
    refine .st 25 ?_
    refine .go ?_
    have hlr : (e.acc ++ [a1]).length = e.acc.length + 1 := by simp
    have hft : (e.acc ++ [a1]).flatMap encA = e.acc.flatMap encA ++ encA a1 := by simp
    have htt : e.ids ++ [a.id] = (e.acc ++ [a1]).map (·.id) := by rw [← ha1]; simp [Eng.ids]
    have hll : (i.lb ++ [b40]).length = i.lb.length + 1 := by simp
    have hlm : (i.lb ++ [b40]).map ptrV = i.lb.map ptrV ++ [ptrV b40] := by simp
    rw [← hlr, ← hft, htt]
    refine .seq ?_
    refine .reg ?_
    refine .mv ?_
    refine .mv ?_
    refine .nc ?_
    refine .fa ?_
    refine .fa ?_
    refine .ld ?_
    refine .mv ?_
    refine .bs1 (v := ptrV b40) (m := 1) (fun b87 => ?_) rfl
    refine .ap (src := [ptrV b40]) (k := 1) (m := 1) (.inr ⟨b87, 0, rfl, .ofRd (h := .head)⟩) (fun p88 c88 => ?_) rfl rfl
    refine .nc ?_
    refine .fa ?_
    refine .fa ?_
    refine .st ?_
    refine .go ?_
    refine .seq ?_
    refine .reg ?_
    refine .as ?_
    refine .go ?_
    rw [← hll, ← hlm]
    refine .r1 fun w hs => ?_
    rw [key]
    refine ⟨⟨p76, c76, i.pt, i.ct, p88, c88, i.bA, i.bI, i.lb ++ [b40]⟩, by simp [hi], rfl, ?_⟩
    have h1 := hs.pm 10 [2, 4, 5, 6, 7, 8, 9]
    have h2 := h1.imp fun g hg => sepL_in ([_, _, _, _, _, _] ++ rowsP e.rws i.lb) hg
    have hrp : rowsP (e.rws ++ [[]]) (i.lb ++ [b40]) = rowsP e.rws i.lb ++ [lstB b40 []] := rowsP_app e.rws i.lb [[]] [b40] hi.symm
    show Sat κ w (engH b _ _ (rowsP (e.rws ++ [[]]) (i.lb ++ [b40]) ++ cs))
    rw [hrp, List.append_assoc]
    exact h2
end Go.Proofs.YtpcechnalfaajaaDoor

/- The engine's steps: what they keep. -/
namespace Go.Proofs.YtpcechnalfaajaaDoor
open Go Go.Proofs

/-- Code, some parts in. -/
def tailC : Nat → Code → Code
  | 0, c => c
  | n + 1, .seq _ y => tailC n y
  | _ + 1, c => c
theorem Co.more {P : Program} {Q : Exit → Act → World → Prop} {n : Nd} {κ : Kap} {c : Code} {fr fr' : List (Nat × Value)} {cs : List HProp} (h : Co P Q n κ c fr' cs) (h0 : allLook fr fr') : Co P Q n κ c fr cs :=
  fun a w hf hs => h a w (hf.to h0) hs
namespace Eng
theorem release_form (e : Eng) (p : Transfer) (held : Num) (d c : Nat) (nothing : Bool) : ∃ A : List Account, e.release p held d c nothing = { e with acc := A } ∧ A.length = e.acc.length ∧ A.map (·.id) = e.acc.map (·.id) := by
  unfold release
  simp only
  have s1 : ∀ (A : List Account) (j : Nat) (x : Account), x.id = (A.getD j zA).id → (A.set j x).length = A.length ∧ (A.set j x).map (·.id) = A.map (·.id) := fun A j x h => ⟨by simp, ids_set (e := { e with acc := A }) h⟩
  have a1 := s1 e.acc d { e.acc.getD d zA with dp := subN (e.acc.getD d zA).dp held } rfl
  generalize e.acc.set d { e.acc.getD d zA with dp := subN (e.acc.getD d zA).dp held } = A1 at *
  have a2 := s1 A1 c { A1.getD c zA with cp := subN (A1.getD c zA).cp held } rfl
  generalize A1.set c { A1.getD c zA with cp := subN (A1.getD c zA).cp held } = A2 at *
  have a3 := s1 A2 d { A2.getD d zA with flags := bclr (A2.getD d zA).flags 8 } rfl
  have a4 := fun A => s1 A c { A.getD c zA with flags := bclr (A.getD c zA).flags 8 } rfl
  by_cases h1 : nothing = true ∧ band p.flags 64 ≠ 0
  · by_cases h2 : nothing = true ∧ band p.flags 128 ≠ 0
    · rw [if_pos h1, if_pos h2]
      exact ⟨_, rfl, by rw [(a4 _).1, a3.1, a2.1, a1.1], by rw [(a4 _).2, a3.2, a2.2, a1.2]⟩
    · rw [if_pos h1, if_neg h2]
      exact ⟨_, rfl, by rw [a3.1, a2.1, a1.1], by rw [a3.2, a2.2, a1.2]⟩
  · by_cases h2 : nothing = true ∧ band p.flags 128 ≠ 0
    · rw [if_neg h1, if_pos h2]
      exact ⟨_, rfl, by rw [(a4 _).1, a2.1, a1.1], by rw [(a4 _).2, a2.2, a1.2]⟩
    · rw [if_neg h1, if_neg h2]
      exact ⟨_, rfl, by rw [a2.1, a1.1], by rw [a2.2, a1.2]⟩
theorem post_form (e : Eng) (n : Num) (d c : Nat) : ∃ A : List Account, e.post n d c = { e with acc := A } ∧ A.length = e.acc.length ∧ A.map (·.id) = e.acc.map (·.id) := by
  unfold post
  simp only
  have s1 : ∀ (A : List Account) (j : Nat) (x : Account), x.id = (A.getD j zA).id → (A.set j x).length = A.length ∧ (A.set j x).map (·.id) = A.map (·.id) := fun A j x h => ⟨by simp, ids_set (e := { e with acc := A }) h⟩
  have a1 := s1 e.acc d { e.acc.getD d zA with dq := addN [(e.acc.getD d zA).dq, n] } rfl
  generalize e.acc.set d { e.acc.getD d zA with dq := addN [(e.acc.getD d zA).dq, n] } = A1 at *
  have a2 := s1 A1 c { A1.getD c zA with cq := addN [(A1.getD c zA).cq, n] } rfl
  exact ⟨_, rfl, by rw [a2.1, a1.1], by rw [a2.2, a1.2]⟩
theorem setState_tids (e : Eng) (k : Nat) (s : Int) : (e.setState k s).tids = e.tids := tids_set (l := e.trs) rfl
end Eng
end Go.Proofs.YtpcechnalfaajaaDoor

/- engine: second, its end. -/
namespace Go.Proofs.YtpcechnalfaajaaDoor
open Go Go.Proofs

def mis (t p : Transfer) : Bool := ((!decide (t.debit = 0) && !decide (t.debit = p.debit)) || (!decide (t.credit = 0) && !decide (t.credit = p.credit))) || (decide (t.ledger ≠ 0) && decide (t.ledger ≠ p.ledger))
theorem mis_iff (t p : Transfer) : mis t p = true ↔ (t.debit ≠ 0 ∧ t.debit ≠ p.debit) ∨ (t.credit ≠ 0 ∧ t.credit ≠ p.credit) ∨ (t.ledger ≠ 0 ∧ t.ledger ≠ p.ledger) := by
  unfold mis
  simp [or_assoc]
def secN (t : Transfer) (held : Num) : Num := if t.amount = 0 then held else t.amount
def secE (t p : Transfer) (held : Num) : Int :=
  if band p.flags 2 = 0 then 21 else if p.state = 2 ∨ p.state = 3 then 22 else if p.state = 4 then 23 else if mis t p = true then 25
  else if held.toNat < (secN t held).toNat ∨ ((secN t held).toNat < held.toNat ∧ band t.flags 8 ≠ 0) then 24 else 0
theorem secE_eq (t p : Transfer) (held : Num) : Eng.secondBad t p held = secE t p held := by
  unfold Eng.secondBad secE secN
  simp only [mis_iff]
def secF (e : Eng) (t p : Transfer) (k d c : Nat) (held n : Num) : Eng :=
  let e := (e.release p held d c (decide (band t.flags 8 ≠ 0))).setState k 3
  let e := if band t.flags 4 ≠ 0 then (e.setState k 2).post n d c else e
  e.add { t with state := 0 } n d c
theorem second_none {e : Eng} {t : Transfer} (h : posN t.pid e.tids = none) : e.second t = (e, 20) := by unfold Eng.second; rw [h]
theorem second_some {e : Eng} {t p : Transfer} {k : Nat} {held : Num} (h : posN t.pid e.tids = some k) (hp : e.trs.getD k zT = p) (hh : e.amount p.id = held) :
    e.second t = if secE t p held ≠ 0 then (e, secE t p held) else (secF e t p k ((posN p.debit e.ids).getD 0) ((posN p.credit e.ids).getD 0) held (secN t held), 0) := by
  unfold Eng.second
  rw [h]
  simp only
  rw [hp, hh, secE_eq]
  rfl
set_option maxHeartbeats 2000000 in
theorem second_rest (b : Nat) (e : Eng) (i : EngI) (hi : i.lb.length = e.rws.length) (t p : Transfer) (k d c bt b3 b8 b9 : Nat) (held n : Num) (hbt : i.pt = some ⟨bt, 0, none⟩) (hk : k < e.trs.length) (hpe : e.trs[k] = p) (hd : d < e.acc.length) (hc : c < e.acc.length)
    (hnt : e.tids.Nodup) (hr : RowOk e) (hlt : ∀ l ∈ e.rws, l.length + 2 < 90000) (htl : e.trs.length < 600)
    (htm : -1000000000000 ≤ e.time ∧ e.time ≤ 1000000000000) (hev : -1000000000000 ≤ bclr t.flags 1 ∧ bclr t.flags 1 ≤ 1000000000000) (κ : Kap) (hκ : Laid κ) (cs : List HProp) :
    Co Tryd.prog (bodyPost Tryd.prog Tryd.f64 fun e_1 w' => ∃ i' : EngI, i'.lb.length = e.rws.length ∧ e_1 = .returned (.int .i64 0) ∧ Sat κ w' (engO b (secF e t p k d c held n) i' cs)) ⟨(Tryd.f64).ntmps, []⟩ κ (tailC 11 ((Tryd.f64).body.getD .skip))
      [(0, .pointer (some ⟨b, 0, none⟩)), (3, .pointer (some ⟨b3, 0, none⟩)), (7, .pointer (some ⟨bt, 0 + ((k : Nat) : Int).toNat * 16, none⟩)), (8, .pointer (some ⟨b8, 0, none⟩)), (9, .pointer (some ⟨b9, 0, none⟩)), (11, .int .i64 d), (13, .int .i64 c)] (pts b9 (24, nm n) :: pts b8 (24, nm held) :: pts b3 (43, encT t) :: engO b e i cs) := by
  refine .slp (p := i.pa) (cap := i.ca) (sz := 46) (n0 := e.acc.length) (by omega) (fun ba hba _ => ?_)
  obtain ⟨pa, ca, pt, ct, pr, cr, bA, bI, lb⟩ := i
  simp only at hbt hba hi
  subst hbt hba
  refine .seq ?_
  refine .reg ?_
  refine .mv ?_
  refine .mv ?_
  refine .ldw ?_
  refine .mv ?_
  refine .mv ?_
  refine .fa ?_
  refine .ld (v := .int .i64 t.flags) ?_
  refine .an ?_
  refine .ne ?_
  have hrel := release_tr b e ⟨some ⟨ba, 0, none⟩, ca, some ⟨bt, 0, none⟩, ct, pr, cr, bA, bI, lb⟩ hi bt k rfl hk held d c hd hc (decide (band t.flags 8 ≠ 0))
  rw [hpe] at hrel
  refine .cl (Tr.ef3 (hrel κ _)) ?_
  obtain ⟨A1, e1, l1, m1⟩ := Eng.release_form e p held d c (decide (band t.flags 8 ≠ 0))
  have hpk : e.trs.getD k zT = p := by rw [getD_at hk, hpe]
  have hF : secF e t p k d c held n = (if band t.flags 4 ≠ 0 then ((⟨A1, e.trs.set k { p with state := 3 }, e.rws, e.time, e.now⟩ : Eng).setState k 2).post n d c else ⟨A1, e.trs.set k { p with state := 3 }, e.rws, e.time, e.now⟩).add { t with state := 0 } n d c := by
    unfold secF
    rw [e1, ← hpk]; rfl
  have hp3 : putN (e.trs.flatMap encT) (0 + ((k : Nat) : Int).toNat * 16 + 15) [.int .i64 3] = some ((e.trs.set k { p with state := 3 }).flatMap encT) := by
    rw [Nat.zero_add]
    exact flat_put (j := k) encT_len hk (by rw [hpe]; rfl)
  have hS : ∀ (E : Eng) (h : k < E.trs.length), E.setState k 2 = { E with trs := E.trs.set k { E.trs[k] with state := 2 } } := fun E h => by unfold Eng.setState; rw [getD_at h]
  have hl3 : (e.trs.set k { p with state := 3 }).length = e.trs.length := by simp
  have hm3 : (e.trs.set k { p with state := 3 }).map (·.id) = e.trs.map (·.id) := tids_set (by rw [hpk])
  have hg3 : ∀ h, (e.trs.set k { p with state := 3 })[k]'h = { p with state := 3 } := fun h => by simp
  rw [e1]
  refine .sat (cs' := pts b9 (24, nm n) :: pts b8 (24, nm held) :: pts b3 (43, encT t) :: pts b (92, [.slice (some ⟨ba, 0, none⟩) A1.length ca, .slice (some ⟨bt, 0, none⟩) e.trs.length ct, .slice pr lb.length cr, ptrV bA, ptrV bI, .int .i64 e.time, .int .i64 e.now]) ::
    sl 46 (.slice (some ⟨ba, 0, none⟩) A1.length ca) (37, A1.flatMap encA) :: sl 16 (.slice (some ⟨bt, 0, none⟩) e.trs.length ct) (43, e.trs.flatMap encT) :: sl 1 (.slice pr lb.length cr) (72, lb.map ptrV) ::
    ixB bA (idxOf (A1.map (·.id))) :: ixB bI (idxOf e.tids) :: (rowsP e.rws lb ++ cs)) (fun w hs => hs) ?_
  refine .go ?_
  refine .seq ?_
  refine .reg ?_
  refine .mv ?_
  refine .nc ?_
  refine .fa ?_
  refine .sx hp3 ?_
  refine .go ?_
  generalize e.trs.set k { p with state := 3 } = T1 at *
  have hk1 : k < T1.length := by omega
  have hgk := hg3 hk1
  refine .jn (ι := Eng) (fun _ => [(0, .pointer (some ⟨b, 0, none⟩)), (3, .pointer (some ⟨b3, 0, none⟩)), (9, .pointer (some ⟨b9, 0, none⟩)), (11, .int .i64 d), (13, .int .i64 c)]) (fun E => pts b9 (24, nm n) :: pts b3 (43, encT t) :: engO b E ⟨some ⟨ba, 0, none⟩, ca, some ⟨bt, 0, none⟩, ct, pr, cr, bA, bI, lb⟩ cs) (fun E => E = (if band t.flags 4 ≠ 0 then ((⟨A1, T1, e.rws, e.time, e.now⟩ : Eng).setState k 2).post n d c else ⟨A1, T1, e.rws, e.time, e.now⟩) ∧ E.acc.length = e.acc.length ∧ E.rws = e.rws ∧ E.tids = e.tids ∧ E.trs.length = e.trs.length ∧ E.time = e.time) ?_ fun E hE => ?_
  · refine .seq ?_
    refine .reg ?_
    refine .fa ?_
    refine .ld (v := .int .i64 t.flags) ?_
    refine .an ?_
    refine .ne ?_
    refine .go ?_
    refine .cond rfl (fun h4 => ?_) (fun h4 => ?_)
    · have h4 := of_decide_eq_true h4
      have hp2 : putN (T1.flatMap encT) (0 + ((k : Nat) : Int).toNat * 16 + 15) [.int .i64 2] = some ((T1.set k { p with state := 2 }).flatMap encT) := by
        rw [Nat.zero_add]
        exact flat_put (j := k) encT_len hk1 (by rw [hgk]; rfl)
      have hl2 : (T1.set k { p with state := 2 }).length = T1.length := by simp
      have hm2 : (T1.set k { p with state := 2 }).map (·.id) = T1.map (·.id) := tids_set (by rw [getD_at hk1, hgk])
      have hE2 : (⟨A1, T1, e.rws, e.time, e.now⟩ : Eng).setState k 2 = ⟨A1, T1.set k { p with state := 2 }, e.rws, e.time, e.now⟩ := by rw [hS _ hk1]; simp only; rw [hgk]
      refine .seq ?_
      refine .reg ?_
      refine .mv ?_
      refine .nc ?_
      refine .fa ?_
      refine .sx hp2 ?_
      generalize T1.set k { p with state := 2 } = T2 at *
      refine .go ?_
      refine .seq ?_
      refine .regD [(b, 0, [.slice (some ⟨ba, 0, none⟩) A1.length ca, .slice (some ⟨bt, 0, none⟩) e.trs.length ct, .slice pr lb.length cr, ptrV bA, ptrV bI, .int .i64 e.time, .int .i64 e.now])] [] ?_
      refine .mv 0 ?_
      refine .nc 1 ?_
      refine .fa 2 ?_
      refine .fa 3 ?_
      refine .ld 4 ?_
      refine .mv 5 ?_
      refine .ix 6 ?_
      refine .mv 7 ?_
      refine .nc 8 ?_
      refine .fa 9 ?_
      refine .fa 10 ?_
      refine .ld 11 ?_
      refine .mv 12 ?_
      refine .ix 13 ?_
      refine .as 14 ?_
      refine .as 15 ?_
      refine .go ?_
      have hkd : d < A1.length := by omega
      have hxA : ∀ (cs : List HProp) [RdAt ba cs 0 (A1.flatMap encA)], RdAt ba cs (0 + ((d : Nat) : Int).toNat * 46) (encA A1[d]) := fun cs h => h.sub encA_len d hkd
      have hsx : putN (A1.flatMap encA) (0 + ((d : Nat) : Int).toNat * 46 + 6) (nm (addN [A1[d].dq, n])) = some ((A1.set d { A1[d] with dq := addN [A1[d].dq, n] }).flatMap encA) := by
        rw [Nat.zero_add]
        exact flat_put (j := d) encA_len hkd rfl
      have hlx : (A1.set d { A1[d] with dq := addN [A1[d].dq, n] }).length = A1.length := by simp
      have hmx : (A1.set d { A1[d] with dq := addN [A1[d].dq, n] }).map (·.id) = A1.map (·.id) := ids_set (e := { e with acc := A1 }) (by rw [getD_at hkd])
      have hqx : (A1.set d { A1.getD d zA with dq := addN [(A1.getD d zA).dq, n] }) = (A1.set d { A1[d] with dq := addN [A1[d].dq, n] }) := by rw [getD_at hkd]
      generalize A1.set d { A1[d] with dq := addN [A1[d].dq, n] } = A2 at *
      generalize A1[d] = x at *
      refine .seq ?_
      refine .regD [(b9, 0, nm n), (ba, 0 + ((d : Nat) : Int).toNat * 46, encA x)] [13] ?_
      refine .mv 0 ?_
      refine .mv 1 ?_
      refine .nc 2 ?_
      refine .fa 3 ?_
      refine .lx 4 (show getV true (encA x) 6 2 = some (.agg (nm x.dq).toArray) from rfl) ?_
      refine .ldw 5 ?_
      refine .bs 6 fun b200 => ?_
      refine .cl 7 (add2_tr x.dq n b200 κ _) ?_
      refine .mv 8 ?_
      refine .ex 9 ?_
      refine .ex 10 ?_
      refine .nc 11 ?_
      refine .fa 12 ?_
      refine .sx 13 (v := .agg (nm (addN [x.dq, n])).toArray) hsx ?_
      clear hxA
      refine .go ?_
      have hkc : c < A2.length := by omega
      have hyA : ∀ (cs : List HProp) [RdAt ba cs 0 (A2.flatMap encA)], RdAt ba cs (0 + ((c : Nat) : Int).toNat * 46) (encA A2[c]) := fun cs h => h.sub encA_len c hkc
      have hsy : putN (A2.flatMap encA) (0 + ((c : Nat) : Int).toNat * 46 + 10) (nm (addN [A2[c].cq, n])) = some ((A2.set c { A2[c] with cq := addN [A2[c].cq, n] }).flatMap encA) := by
        rw [Nat.zero_add]
        exact flat_put (j := c) encA_len hkc rfl
      have hly : (A2.set c { A2[c] with cq := addN [A2[c].cq, n] }).length = A2.length := by simp
      have hmy : (A2.set c { A2[c] with cq := addN [A2[c].cq, n] }).map (·.id) = A2.map (·.id) := ids_set (e := { e with acc := A2 }) (by rw [getD_at hkc])
      have hqy : (A2.set c { A2.getD c zA with cq := addN [(A2.getD c zA).cq, n] }) = (A2.set c { A2[c] with cq := addN [A2[c].cq, n] }) := by rw [getD_at hkc]
      generalize A2.set c { A2[c] with cq := addN [A2[c].cq, n] } = A3 at *
      generalize A2[c] = y at *
      refine .regD [(b9, 0, nm n), (ba, 0 + ((c : Nat) : Int).toNat * 46, encA y)] [13] ?_
      refine .mv 0 ?_
      refine .mv 1 ?_
      refine .nc 2 ?_
      refine .fa 3 ?_
      refine .lx 4 (show getV true (encA y) 10 2 = some (.agg (nm y.cq).toArray) from rfl) ?_
      refine .ldw 5 ?_
      refine .bs 6 fun b213 => ?_
      refine .cl 7 (add2_tr y.cq n b213 κ _) ?_
      refine .mv 8 ?_
      refine .ex 9 ?_
      refine .ex 10 ?_
      refine .nc 11 ?_
      refine .fa 12 ?_
      refine .sx 13 (v := .agg (nm (addN [y.cq, n])).toArray) hsy ?_
      clear hyA
      refine .nil fun aa w hf hs => ⟨⟨A3, T2, e.rws, e.time, e.now⟩, ?_, hf.to (by repeat (first | exact trivial | refine ⟨rfl, ?_⟩)), ?_⟩
      · exact ⟨by rw [if_pos h4, hE2, ← hqy, ← hqx]; rfl, by show A3.length = _; omega, rfl, by show T2.map (·.id) = _; rw [hm2, hm3]; rfl, by show T2.length = _; omega, rfl⟩
      · have hs := hs.pm 4 [2]
        show Sat κ w (pts b9 (24, nm n) :: pts b3 (43, encT t) :: pts b (92, [.slice (some ⟨ba, 0, none⟩) A3.length ca, .slice (some ⟨bt, 0, none⟩) T2.length ct, .slice pr lb.length cr, ptrV bA, ptrV bI, .int .i64 e.time, .int .i64 e.now]) ::
    sl 46 (.slice (some ⟨ba, 0, none⟩) A3.length ca) (37, A3.flatMap encA) :: sl 16 (.slice (some ⟨bt, 0, none⟩) T2.length ct) (43, T2.flatMap encT) :: sl 1 (.slice pr lb.length cr) (72, lb.map ptrV) ::
    ixB bA (idxOf (A3.map (·.id))) :: ixB bI (idxOf (T2.map (·.id))) :: (rowsP e.rws lb ++ cs))
        rw [show A3.length = A1.length by omega, show T2.length = e.trs.length by omega, hmy, hmx, hm2, hm3]
        exact hs
    · have h4 := of_decide_eq_false h4
      refine .skip fun aa w hf hs => ⟨⟨A1, T1, e.rws, e.time, e.now⟩, ?_, hf.to (by repeat (first | exact trivial | refine ⟨rfl, ?_⟩)), ?_⟩
      · exact ⟨by rw [if_neg h4], by show A1.length = _; omega, rfl, by show T1.map (·.id) = _; rw [hm3]; rfl, by show T1.length = _; omega, rfl⟩
      · have hs := hs.pm 2 [0]
        show Sat κ w (pts b9 (24, nm n) :: pts b3 (43, encT t) :: pts b (92, [.slice (some ⟨ba, 0, none⟩) A1.length ca, .slice (some ⟨bt, 0, none⟩) T1.length ct, .slice pr lb.length cr, ptrV bA, ptrV bI, .int .i64 e.time, .int .i64 e.now]) ::
    sl 46 (.slice (some ⟨ba, 0, none⟩) A1.length ca) (37, A1.flatMap encA) :: sl 16 (.slice (some ⟨bt, 0, none⟩) T1.length ct) (43, T1.flatMap encT) :: sl 1 (.slice pr lb.length cr) (72, lb.map ptrV) ::
    ixB bA (idxOf (A1.map (·.id))) :: ixB bI (idxOf (T1.map (·.id))) :: (rowsP e.rws lb ++ cs))
        rw [show T1.length = e.trs.length by omega, hm3]
        exact hs
  obtain ⟨hE, fa, fr, ft, fl, fm⟩ := hE
  rw [← hE] at hF
  refine .seq ?_
  refine .reg ?_
  refine .fa ?_
  refine .sx (r' := encT { t with state := 0 }) rfl ?_
  refine .go ?_
  refine .seq ?_
  refine .reg ?_
  refine .mv ?_
  refine .ldw ?_
  refine .ldw ?_
  refine .mv ?_
  refine .mv ?_
  refine .sat (cs' := engO b E ⟨some ⟨ba, 0, none⟩, ca, some ⟨bt, 0, none⟩, ct, pr, cr, bA, bI, lb⟩ cs) (fun w hs => hs.pm 2 []) ?_
  have hrE : RowOk E := ⟨by rw [fa]; exact hr.la, by rw [fr, fa]; exact hr.lr, by rw [fr]; exact hr.lw⟩
  refine .ce (eadd_tr b E ⟨some ⟨ba, 0, none⟩, ca, some ⟨bt, 0, none⟩, ct, pr, cr, bA, bI, lb⟩ (by rw [fr]; exact hi) { t with state := 0 } n d c (by rw [fa]; exact hd) (by rw [fa]; exact hc) hrE (by rw [fr]; exact hlt) (by rw [ft]; exact hnt) (by rw [fl]; exact htl) (by rw [fm]; exact htm) hev κ hκ cs) (fun i' hi' => ?_)
  refine .go ?_
  refine .seq ?_
  refine .reg ?_
  refine .as ?_
  refine .go ?_
  refine .r1 fun w hs => ?_
  rw [hF]
  exact ⟨i', by rw [hi', fr], rfl, hs⟩
end Go.Proofs.YtpcechnalfaajaaDoor

/- engine: second, its refusals. -/
namespace Go.Proofs.YtpcechnalfaajaaDoor
open Go Go.Proofs

set_option maxHeartbeats 2000000 in
theorem second_tr (b : Nat) (e : Eng) (i : EngI) (hi : i.lb.length = e.rws.length) (t : Transfer) (hn : e.ids.Nodup) (hnt : e.tids.Nodup) (hr : RowOk e) (hlt : ∀ l ∈ e.rws, l.length + 2 < 90000) (htl : e.trs.length < 600)
    (htm : -1000000000000 ≤ e.time ∧ e.time ≤ 1000000000000) (hev : -1000000000000 ≤ bclr t.flags 1 ∧ bclr t.flags 1 ≤ 1000000000000) (hpay : ∀ id t, e.transfer id = some t → posN (e.payer t) e.ids ≠ none)
    (hdc : ∀ p ∈ e.trs, band p.flags 2 ≠ 0 → posN p.debit e.ids ≠ none ∧ posN p.credit e.ids ≠ none) (κ : Kap) (hκ : Laid κ) (cs : List HProp) :
    Te Tryd.prog 64 [.pointer (some ⟨b, 0, none⟩), .agg (encT t).toArray] κ (engO b e i cs) (fun i' : EngI => i'.lb.length = e.rws.length) (fun _ => .int .i64 (e.second t).2) (fun i' => engO b (e.second t).1 i' cs) := by
  refine .enter Tryd.func64 rfl rfl ?_
  refine .seq ?_
  refine .reg ?_
  refine .bx fun b3 => ?_
  refine .as ?_
  refine .go ?_
  refine .seq ?_
  rw [vc_agg]
  have hil : e.tids.length = e.trs.length := by simp [Eng.tids]
  refine .regD [(b, 0, [.slice i.pa e.acc.length i.ca, .slice i.pt e.trs.length i.ct, .slice i.pr i.lb.length i.cr, ptrV i.bA, ptrV i.bI, .int .i64 e.time, .int .i64 e.now]), (b3, 0, encT t)] [] ?_
  refine .mv 0 ?_
  refine .nc 1 ?_
  refine .fa 2 ?_
  refine .fa 3 ?_
  refine .ld 4 ?_
  refine .fa 5 ?_
  refine .ld 6 (v := .agg (nm t.pid).toArray) ?_
  refine .pm 7 [6, 0, 1, 2, 3, 4, 5] ?_
  refine .cl 7 (getB_tr i.bI (idxOf e.tids) (idx_srt hnt) (by rw [idx_len hnt, hil]; omega) t.pid κ _) ?_
  rw [idx_get hnt]
  refine .pm 7 [1, 2, 3, 4, 5, 6, 0] ?_
  cases hp : posN t.pid e.tids with
  | none =>
    simp only [Option.map_none, Option.getD_none, Option.isSome_none]
    refine .mv 8 ?_
    refine .ex 9 ?_
    refine .ex 10 ?_
    refine .as 11 ?_
    refine .as 12 ?_
    refine .go ?_
    refine .seq ?_
    refine .seq ?_
    refine .reg ?_
    refine .mv ?_
    refine .nt ?_
    refine .go ?_
    refine .cond rfl (fun hc => ?_) (fun hc => by cases hc)
    refine .seq ?_
    refine .reg ?_
    refine .as ?_
    refine .go ?_
    refine .r1 fun w hs => ?_
    rw [second_none hp]
    exact ⟨i, hi, rfl, hs.rows⟩
  | some k =>
  obtain ⟨hk, hkid⟩ := posN_some hp
  have hk : k < e.trs.length := by omega
  have hpk : e.trs.getD k zT = e.trs[k] := getD_at hk
  have hpm : e.trs[k] ∈ e.trs := List.getElem_mem hk
  have key := second_some hp hpk rfl
  have hdc := hdc _ hpm
  simp only [Option.map_some, Option.getD_some, Option.isSome_some]
  refine .mv 8 ?_
  refine .ex 9 ?_
  refine .ex 10 ?_
  refine .as 11 ?_
  refine .as 12 ?_
  refine .go ?_
  refine .seq ?_
  refine .seq ?_
  refine .reg ?_
  refine .mv ?_
  refine .nt ?_
  refine .go ?_
  refine .cond rfl (fun hc => by cases hc) (fun hc => ?_)
  refine .go ?_
  refine .slp (p := i.pt) (cap := i.ct) (sz := 16) (n0 := e.trs.length) (by omega) (fun bt hbt _ => ?_)
  rw [hbt]
  refine .seq ?_
  refine .reg ?_
  refine .mv ?_
  refine .nc ?_
  refine .fa ?_
  refine .fa ?_
  refine .ld ?_
  refine .mv ?_
  refine .ix ?_
  refine .as ?_
  refine .go ?_
  have hT : ∀ (cs : List HProp) [RdAt bt cs 0 (e.trs.flatMap encT)], RdAt bt cs (0 + ((k : Nat) : Int).toNat * 16) (encT e.trs[k]) := fun cs h => h.sub encT_len k hk
  generalize hpe : e.trs[k] = p at *
  generalize hheld : e.amount p.id = held at *
  refine .seq ?_
  refine .block ?_
  refine .seq ?_
  refine .reg ?_
  refine .mv ?_
  refine .nc ?_
  refine .fa ?_
  refine .lx (show getV false (encT p) 12 1 = some (.int .i64 p.flags) from rfl) ?_
  refine .an ?_
  refine .eq ?_
  refine .as ?_
  refine .go ?_
  refine .cond rfl (fun hc => ?_) (fun hc => ?_)
  · have hbad : secE t p held = 21 := if_pos (of_decide_eq_true hc)
    refine .seq ?_
    refine .reg ?_
    refine .as ?_
    refine .go ?_
    refine .r1 fun w hs => ?_
    have k2 : e.second t = (e, 21) := key.trans (by rw [hbad]; exact if_pos (by decide))
    rw [k2]
    exact ⟨{ i with pt := some ⟨bt, 0, none⟩ }, hi, rfl, hs.rows⟩
  have h21 : ¬ band p.flags 2 = 0 := of_decide_eq_false hc
  refine .jn (ι := Unit) (fun _ => [(0, .pointer (some ⟨b, 0, none⟩)), (3, .pointer (some ⟨b3, 0, none⟩)), (4, .int .i64 0), (7, .pointer (some ⟨bt, 0 + ((k : Nat) : Int).toNat * 16, none⟩)), (44, .bool (decide (p.state = 2 ∨ p.state = 3)))]) (fun _ => pts b3 (43, encT t) :: engO b e { i with pt := some ⟨bt, 0, none⟩ } cs) (fun _ => True) ?_ fun _ _ => ?_
  · refine .reg ?_
    refine .mv ?_
    refine .nc ?_
    refine .fa ?_
    refine .lx (show getV false (encT p) 15 1 = some (.int .i64 p.state) from rfl) ?_
    refine .eq ?_
    refine .mv ?_
    by_cases h2 : p.state = 2
    · rw [decide_eq_true h2, decide_eq_true (.inl h2)]
      repeat refine .skip ?_
      first | refine .pt ?_ | refine .pf ?_
      refine .as ?_
      exact .nil fun aa w hf hs => ⟨(), trivial, hf.to (by repeat (first | exact trivial | refine ⟨rfl, ?_⟩)), hs⟩
    · rw [decide_eq_false h2]
      refine .mv ?_
      refine .nc ?_
      refine .fa ?_
      refine .lx (show getV false (encT p) 15 1 = some (.int .i64 p.state) from rfl) ?_
      refine .eq ?_
      first | refine .pt ?_ | refine .pf ?_
      refine .as ?_
      rw [show decide (p.state = 2 ∨ p.state = 3) = decide (p.state = 3) from by simp [h2]]
      exact .nil fun aa w hf hs => ⟨(), trivial, hf.to (by repeat (first | exact trivial | refine ⟨rfl, ?_⟩)), hs⟩
  refine .cond rfl (fun hc => ?_) (fun hc => ?_)
  · have hbad : secE t p held = 22 := (if_neg h21).trans (if_pos (of_decide_eq_true hc))
    refine .seq ?_
    refine .reg ?_
    refine .as ?_
    refine .go ?_
    refine .r1 fun w hs => ?_
    have k2 : e.second t = (e, 22) := key.trans (by rw [hbad]; exact if_pos (by decide))
    rw [k2]
    exact ⟨{ i with pt := some ⟨bt, 0, none⟩ }, hi, rfl, hs.rows⟩
  have h22 := of_decide_eq_false hc
  refine .seq ?_
  refine .reg ?_
  refine .mv ?_
  refine .nc ?_
  refine .fa ?_
  refine .lx (show getV false (encT p) 15 1 = some (.int .i64 p.state) from rfl) ?_
  refine .eq ?_
  refine .as ?_
  refine .go ?_
  refine .cond rfl (fun hc => ?_) (fun hc => ?_)
  · have hbad : secE t p held = 23 := (if_neg h21).trans ((if_neg h22).trans (if_pos (of_decide_eq_true hc)))
    refine .seq ?_
    refine .reg ?_
    refine .as ?_
    refine .go ?_
    refine .r1 fun w hs => ?_
    have k2 : e.second t = (e, 23) := key.trans (by rw [hbad]; exact if_pos (by decide))
    rw [k2]
    exact ⟨{ i with pt := some ⟨bt, 0, none⟩ }, hi, rfl, hs.rows⟩
  have h23 := of_decide_eq_false hc
  refine .jn (ι := Unit) (fun _ => [(0, .pointer (some ⟨b, 0, none⟩)), (3, .pointer (some ⟨b3, 0, none⟩)), (4, .int .i64 0), (7, .pointer (some ⟨bt, 0 + ((k : Nat) : Int).toNat * 16, none⟩)), (63, .bool (mis t p))]) (fun _ => pts b3 (43, encT t) :: engO b e { i with pt := some ⟨bt, 0, none⟩ } cs) (fun _ => True) ?_ fun _ _ => ?_
  · refine .regD [(b3, 0, encT t), (bt, 0 + ((k : Nat) : Int).toNat * 16, encT p)] [] ?_
    refine .fa 0 ?_
    refine .ld 1 (v := .agg (nm t.debit).toArray) ?_
    refine .bz 2 ?_
    refine .nen 3 t.debit 0 ?_
    refine .mv 4 ?_
    refine .caseB 68 rfl (fun a1 => ?_) (fun a1 => ?_)
    · refine .fa 5 ?_
      refine .ld 6 (v := .agg (nm t.debit).toArray) ?_
      refine .mv 7 ?_
      refine .nc 8 ?_
      refine .fa 9 ?_
      refine .lx 10 (show getV true (encT p) 2 2 = some (.agg (nm p.debit).toArray) from rfl) ?_
      refine .nen 11 t.debit p.debit ?_
      refine .pt 12 ?_
      refine .mv 13 ?_
      refine .caseB 77 rfl (fun a2 => ?_) (fun a2 => ?_)
      · refine .skip 14 ?_
        refine .skip 15 ?_
        refine .skip 16 ?_
        refine .skip 17 ?_
        refine .skip 18 ?_
        refine .skip 19 ?_
        refine .skip 20 ?_
        refine .skip 21 ?_
        refine .skip 22 ?_
        refine .skip 23 ?_
        refine .skip 24 ?_
        refine .skip 25 ?_
        refine .skip 26 ?_
        refine .pt 27 ?_
        refine .mv 28 ?_
        refine .skip 29 ?_
        refine .skip 30 ?_
        refine .skip 31 ?_
        refine .skip 32 ?_
        refine .skip 33 ?_
        refine .skip 34 ?_
        refine .skip 35 ?_
        refine .skip 36 ?_
        refine .skip 37 ?_
        refine .skip 38 ?_
        refine .skip 39 ?_
        refine .skip 40 ?_
        refine .pt 41 ?_
        refine .as 42 ?_
        rw [show mis t p = true from by unfold mis; rw [a1, a2]; rfl]
        exact .nil fun aa w hf hs => ⟨(), trivial, hf.to (by repeat (first | exact trivial | refine ⟨rfl, ?_⟩)), hs⟩
      · skip
        refine .fa 14 ?_
        refine .ld 15 (v := .agg (nm t.credit).toArray) ?_
        refine .bz 16 ?_
        refine .nen 17 t.credit 0 ?_
        refine .mv 18 ?_
        refine .caseB 82 rfl (fun b1 => ?_) (fun b1 => ?_)
        · refine .fa 19 ?_
          refine .ld 20 (v := .agg (nm t.credit).toArray) ?_
          refine .mv 21 ?_
          refine .nc 22 ?_
          refine .fa 23 ?_
          refine .lx 24 (show getV true (encT p) 4 2 = some (.agg (nm p.credit).toArray) from rfl) ?_
          refine .nen 25 t.credit p.credit ?_
          refine .pt 26 ?_
          refine .pf 27 ?_
          refine .mv 28 ?_
          refine .caseB 92 rfl (fun b2 => ?_) (fun b2 => ?_)
          · refine .skip 29 ?_
            refine .skip 30 ?_
            refine .skip 31 ?_
            refine .skip 32 ?_
            refine .skip 33 ?_
            refine .skip 34 ?_
            refine .skip 35 ?_
            refine .skip 36 ?_
            refine .skip 37 ?_
            refine .skip 38 ?_
            refine .skip 39 ?_
            refine .skip 40 ?_
            refine .pt 41 ?_
            refine .as 42 ?_
            rw [show mis t p = true from by unfold mis; rw [a1, a2, b1, b2]; rfl]
            exact .nil fun aa w hf hs => ⟨(), trivial, hf.to (by repeat (first | exact trivial | refine ⟨rfl, ?_⟩)), hs⟩
          · skip
            refine .fa 29 ?_
            refine .ld 30 (v := .int .i64 t.ledger) ?_
            refine .ne 31 ?_
            refine .mv 32 ?_
            refine .caseB 96 rfl (fun c1 => ?_) (fun c1 => ?_)
            · refine .fa 33 ?_
              refine .ld 34 (v := .int .i64 t.ledger) ?_
              refine .mv 35 ?_
              refine .nc 36 ?_
              refine .fa 37 ?_
              refine .lx 38 (show getV false (encT p) 11 1 = some (.int .i64 p.ledger) from rfl) ?_
              refine .ne 39 ?_
              refine .pt 40 ?_
              refine .pf 41 ?_
              refine .as 42 ?_
              rw [show mis t p = decide (t.ledger ≠ p.ledger) from by unfold mis; rw [a1, a2, b1, b2, c1]; rfl]
              exact .nil fun aa w hf hs => ⟨(), trivial, hf.to (by repeat (first | exact trivial | refine ⟨rfl, ?_⟩)), hs⟩
            · refine .skip 33 ?_
              refine .skip 34 ?_
              refine .skip 35 ?_
              refine .skip 36 ?_
              refine .skip 37 ?_
              refine .skip 38 ?_
              refine .skip 39 ?_
              refine .pf 40 ?_
              refine .pf 41 ?_
              refine .as 42 ?_
              rw [show mis t p = false from by unfold mis; rw [a1, a2, b1, b2, c1]; rfl]
              exact .nil fun aa w hf hs => ⟨(), trivial, hf.to (by repeat (first | exact trivial | refine ⟨rfl, ?_⟩)), hs⟩
        · refine .skip 19 ?_
          refine .skip 20 ?_
          refine .skip 21 ?_
          refine .skip 22 ?_
          refine .skip 23 ?_
          refine .skip 24 ?_
          refine .skip 25 ?_
          refine .pf 26 ?_
          refine .pf 27 ?_
          refine .mv 28 ?_
          refine .fa 29 ?_
          refine .ld 30 (v := .int .i64 t.ledger) ?_
          refine .ne 31 ?_
          refine .mv 32 ?_
          refine .caseB 96 rfl (fun c1 => ?_) (fun c1 => ?_)
          · refine .fa 33 ?_
            refine .ld 34 (v := .int .i64 t.ledger) ?_
            refine .mv 35 ?_
            refine .nc 36 ?_
            refine .fa 37 ?_
            refine .lx 38 (show getV false (encT p) 11 1 = some (.int .i64 p.ledger) from rfl) ?_
            refine .ne 39 ?_
            refine .pt 40 ?_
            refine .pf 41 ?_
            refine .as 42 ?_
            rw [show mis t p = decide (t.ledger ≠ p.ledger) from by unfold mis; rw [a1, a2, b1, c1]; rfl]
            exact .nil fun aa w hf hs => ⟨(), trivial, hf.to (by repeat (first | exact trivial | refine ⟨rfl, ?_⟩)), hs⟩
          · refine .skip 33 ?_
            refine .skip 34 ?_
            refine .skip 35 ?_
            refine .skip 36 ?_
            refine .skip 37 ?_
            refine .skip 38 ?_
            refine .skip 39 ?_
            refine .pf 40 ?_
            refine .pf 41 ?_
            refine .as 42 ?_
            rw [show mis t p = false from by unfold mis; rw [a1, a2, b1, c1]; rfl]
            exact .nil fun aa w hf hs => ⟨(), trivial, hf.to (by repeat (first | exact trivial | refine ⟨rfl, ?_⟩)), hs⟩
    · refine .skip 5 ?_
      refine .skip 6 ?_
      refine .skip 7 ?_
      refine .skip 8 ?_
      refine .skip 9 ?_
      refine .skip 10 ?_
      refine .skip 11 ?_
      refine .pf 12 ?_
      refine .mv 13 ?_
      refine .fa 14 ?_
      refine .ld 15 (v := .agg (nm t.credit).toArray) ?_
      refine .bz 16 ?_
      refine .nen 17 t.credit 0 ?_
      refine .mv 18 ?_
      refine .caseB 82 rfl (fun b1 => ?_) (fun b1 => ?_)
      · refine .fa 19 ?_
        refine .ld 20 (v := .agg (nm t.credit).toArray) ?_
        refine .mv 21 ?_
        refine .nc 22 ?_
        refine .fa 23 ?_
        refine .lx 24 (show getV true (encT p) 4 2 = some (.agg (nm p.credit).toArray) from rfl) ?_
        refine .nen 25 t.credit p.credit ?_
        refine .pt 26 ?_
        refine .pf 27 ?_
        refine .mv 28 ?_
        refine .caseB 92 rfl (fun b2 => ?_) (fun b2 => ?_)
        · refine .skip 29 ?_
          refine .skip 30 ?_
          refine .skip 31 ?_
          refine .skip 32 ?_
          refine .skip 33 ?_
          refine .skip 34 ?_
          refine .skip 35 ?_
          refine .skip 36 ?_
          refine .skip 37 ?_
          refine .skip 38 ?_
          refine .skip 39 ?_
          refine .skip 40 ?_
          refine .pt 41 ?_
          refine .as 42 ?_
          rw [show mis t p = true from by unfold mis; rw [a1, b1, b2]; rfl]
          exact .nil fun aa w hf hs => ⟨(), trivial, hf.to (by repeat (first | exact trivial | refine ⟨rfl, ?_⟩)), hs⟩
        · skip
          refine .fa 29 ?_
          refine .ld 30 (v := .int .i64 t.ledger) ?_
          refine .ne 31 ?_
          refine .mv 32 ?_
          refine .caseB 96 rfl (fun c1 => ?_) (fun c1 => ?_)
          · refine .fa 33 ?_
            refine .ld 34 (v := .int .i64 t.ledger) ?_
            refine .mv 35 ?_
            refine .nc 36 ?_
            refine .fa 37 ?_
            refine .lx 38 (show getV false (encT p) 11 1 = some (.int .i64 p.ledger) from rfl) ?_
            refine .ne 39 ?_
            refine .pt 40 ?_
            refine .pf 41 ?_
            refine .as 42 ?_
            rw [show mis t p = decide (t.ledger ≠ p.ledger) from by unfold mis; rw [a1, b1, b2, c1]; rfl]
            exact .nil fun aa w hf hs => ⟨(), trivial, hf.to (by repeat (first | exact trivial | refine ⟨rfl, ?_⟩)), hs⟩
          · refine .skip 33 ?_
            refine .skip 34 ?_
            refine .skip 35 ?_
            refine .skip 36 ?_
            refine .skip 37 ?_
            refine .skip 38 ?_
            refine .skip 39 ?_
            refine .pf 40 ?_
            refine .pf 41 ?_
            refine .as 42 ?_
            rw [show mis t p = false from by unfold mis; rw [a1, b1, b2, c1]; rfl]
            exact .nil fun aa w hf hs => ⟨(), trivial, hf.to (by repeat (first | exact trivial | refine ⟨rfl, ?_⟩)), hs⟩
      · refine .skip 19 ?_
        refine .skip 20 ?_
        refine .skip 21 ?_
        refine .skip 22 ?_
        refine .skip 23 ?_
        refine .skip 24 ?_
        refine .skip 25 ?_
        refine .pf 26 ?_
        refine .pf 27 ?_
        refine .mv 28 ?_
        refine .fa 29 ?_
        refine .ld 30 (v := .int .i64 t.ledger) ?_
        refine .ne 31 ?_
        refine .mv 32 ?_
        refine .caseB 96 rfl (fun c1 => ?_) (fun c1 => ?_)
        · refine .fa 33 ?_
          refine .ld 34 (v := .int .i64 t.ledger) ?_
          refine .mv 35 ?_
          refine .nc 36 ?_
          refine .fa 37 ?_
          refine .lx 38 (show getV false (encT p) 11 1 = some (.int .i64 p.ledger) from rfl) ?_
          refine .ne 39 ?_
          refine .pt 40 ?_
          refine .pf 41 ?_
          refine .as 42 ?_
          rw [show mis t p = decide (t.ledger ≠ p.ledger) from by unfold mis; rw [a1, b1, c1]; rfl]
          exact .nil fun aa w hf hs => ⟨(), trivial, hf.to (by repeat (first | exact trivial | refine ⟨rfl, ?_⟩)), hs⟩
        · refine .skip 33 ?_
          refine .skip 34 ?_
          refine .skip 35 ?_
          refine .skip 36 ?_
          refine .skip 37 ?_
          refine .skip 38 ?_
          refine .skip 39 ?_
          refine .pf 40 ?_
          refine .pf 41 ?_
          refine .as 42 ?_
          rw [show mis t p = false from by unfold mis; rw [a1, b1, c1]; rfl]
          exact .nil fun aa w hf hs => ⟨(), trivial, hf.to (by repeat (first | exact trivial | refine ⟨rfl, ?_⟩)), hs⟩
  refine .cond rfl (fun hc => ?_) (fun hc => ?_)
  · have hbad : secE t p held = 25 := (if_neg h21).trans ((if_neg h22).trans ((if_neg h23).trans (if_pos hc)))
    refine .seq ?_
    refine .reg ?_
    refine .as ?_
    refine .go ?_
    refine .r1 fun w hs => ?_
    have k2 : e.second t = (e, 25) := key.trans (by rw [hbad]; exact if_pos (by decide))
    rw [k2]
    exact ⟨{ i with pt := some ⟨bt, 0, none⟩ }, hi, rfl, hs.rows⟩
  have h25 : ¬ mis t p = true := fun h => by rw [h] at hc; cases hc
  refine .go ?_
  refine .seq ?_
  refine .reg ?_
  refine .mv ?_
  refine .mv ?_
  refine .nc ?_
  refine .fa ?_
  refine .lx (show getV true (encT p) 0 2 = some (.agg (nm p.id).toArray) from rfl) ?_
  refine .cl (Tr.ef1 (amount_tr b e hn hnt hr htl { i with pt := some ⟨bt, 0, none⟩ } hi p.id (hpay p.id) κ _)) ?_
  rw [hheld]
  refine .al fun b8 => ?_
  refine .stw ?_
  refine .go ?_
  refine .seq ?_
  refine .reg ?_
  refine .fa ?_
  rw [vc_agg]
  refine .ld (v := .agg (nm t.amount).toArray) ?_
  refine .al fun b9 => ?_
  refine .stw ?_
  refine .go ?_
  rw [vc_agg]
  refine .jn (ι := Unit) (fun _ => [(0, .pointer (some ⟨b, 0, none⟩)), (3, .pointer (some ⟨b3, 0, none⟩)), (4, .int .i64 0), (7, .pointer (some ⟨bt, 0 + ((k : Nat) : Int).toNat * 16, none⟩)), (8, .pointer (some ⟨b8, 0, none⟩)), (9, .pointer (some ⟨b9, 0, none⟩))]) (fun _ => pts b9 (24, nm (secN t held)) :: pts b8 (24, nm held) :: pts b3 (43, encT t) :: engO b e { i with pt := some ⟨bt, 0, none⟩ } cs) (fun _ => True) ?_ fun _ _ => ?_
  · refine .seq ?_
    refine .reg ?_
    refine .ldw ?_
    refine .bz ?_
    refine .eqn t.amount 0 ?_
    refine .go ?_
    refine .cond rfl (fun hc => ?_) (fun hc => ?_)
    · rw [show secN t held = held from if_pos (of_decide_eq_true hc)]
      refine .reg ?_
      refine .ldw ?_
      refine .stw ?_
      exact .nil fun aa w hf hs => ⟨(), trivial, hf.to (by repeat (first | exact trivial | refine ⟨rfl, ?_⟩)), hs⟩
    · rw [show secN t held = t.amount from if_neg (of_decide_eq_false hc)]
      exact .skip fun aa w hf hs => ⟨(), trivial, hf.to (by repeat (first | exact trivial | refine ⟨rfl, ?_⟩)), hs⟩
  generalize hnn : secN t held = n at *
  refine .seq ?_
  refine .seq ?_
  refine .reg ?_
  refine .ldw ?_
  refine .ldw ?_
  refine .cl (compare_tr n held κ _) ?_
  refine .as ?_
  refine .go ?_
  refine .jn (ι := Unit) (fun _ => [(0, .pointer (some ⟨b, 0, none⟩)), (3, .pointer (some ⟨b3, 0, none⟩)), (4, .int .i64 0), (7, .pointer (some ⟨bt, 0 + ((k : Nat) : Int).toNat * 16, none⟩)), (8, .pointer (some ⟨b8, 0, none⟩)), (9, .pointer (some ⟨b9, 0, none⟩)), (132, .bool (decide (held.toNat < n.toNat ∨ (n.toNat < held.toNat ∧ band t.flags 8 ≠ 0))))]) (fun _ => pts b9 (24, nm n) :: pts b8 (24, nm held) :: pts b3 (43, encT t) :: engO b e { i with pt := some ⟨bt, 0, none⟩ } cs) (fun _ => True) ?_ fun _ _ => ?_
  · rcases cmp_ways n held with ⟨h, h'⟩ | ⟨h, h'⟩ | ⟨h, h'⟩
    · rw [h', show decide (held.toNat < n.toNat ∨ (n.toNat < held.toNat ∧ band t.flags 8 ≠ 0)) = decide (band t.flags 8 ≠ 0) from by rw [decide_eq_decide]; omega]
      refine .reg ?_
      refine .mv ?_
      refine .gt ?_
      refine .mv ?_
      refine .mv ?_
      refine .lt ?_
      refine .mv ?_
      refine .fa ?_
      refine .ld (v := .int .i64 t.flags) ?_
      refine .an ?_
      refine .ne ?_
      first | refine .pt ?_ | refine .pf ?_
      first | refine .pt ?_ | refine .pf ?_
      exact .nil fun aa w hf hs => ⟨(), trivial, hf.to (by repeat (first | exact trivial | refine ⟨rfl, ?_⟩)), hs⟩
    · rw [h', decide_eq_false (p := held.toNat < n.toNat ∨ (n.toNat < held.toNat ∧ band t.flags 8 ≠ 0)) (by omega)]
      refine .reg ?_
      refine .mv ?_
      refine .gt ?_
      refine .mv ?_
      refine .mv ?_
      refine .lt ?_
      refine .mv ?_
      repeat refine .skip ?_
      first | refine .pt ?_ | refine .pf ?_
      first | refine .pt ?_ | refine .pf ?_
      exact .nil fun aa w hf hs => ⟨(), trivial, hf.to (by repeat (first | exact trivial | refine ⟨rfl, ?_⟩)), hs⟩
    · rw [h', decide_eq_true (p := held.toNat < n.toNat ∨ (n.toNat < held.toNat ∧ band t.flags 8 ≠ 0)) (by omega)]
      refine .reg ?_
      refine .mv ?_
      refine .gt ?_
      refine .mv ?_
      repeat refine .skip ?_
      first | refine .pt ?_ | refine .pf ?_
      exact .nil fun aa w hf hs => ⟨(), trivial, hf.to (by repeat (first | exact trivial | refine ⟨rfl, ?_⟩)), hs⟩
  refine .cond rfl (fun hc => ?_) (fun hc => ?_)
  · have hbad : secE t p held = 24 := (if_neg h21).trans ((if_neg h22).trans ((if_neg h23).trans ((if_neg h25).trans (by rw [hnn]; exact if_pos (of_decide_eq_true hc)))))
    refine .seq ?_
    refine .reg ?_
    refine .as ?_
    refine .go ?_
    refine .r1 fun w hs => ?_
    have k2 : e.second t = (e, 24) := key.trans (by rw [hbad]; exact if_pos (by decide))
    rw [k2]
    exact ⟨{ i with pt := some ⟨bt, 0, none⟩ }, hi, rfl, hs.pm 3 []⟩
  have hbad : secE t p held = 0 := (if_neg h21).trans ((if_neg h22).trans ((if_neg h23).trans ((if_neg h25).trans (by rw [hnn]; exact if_neg (of_decide_eq_false hc)))))
  have key := key.trans (if_neg (by rw [hbad]; decide))
  obtain ⟨hpd, hpc⟩ := hdc h21
  refine .go ?_
  obtain ⟨d, hd⟩ := Option.ne_none_iff_exists'.1 hpd
  obtain ⟨c, hc'⟩ := Option.ne_none_iff_exists'.1 hpc
  rw [hd, hc'] at key
  have key : e.second t = (secF e t p k d c held n, 0) := key
  have hdl : d < e.acc.length := by obtain ⟨h, _⟩ := posN_some hd; simpa [Eng.ids] using h
  have hcl : c < e.acc.length := by obtain ⟨h, _⟩ := posN_some hc'; simpa [Eng.ids] using h
  have hal : e.ids.length = e.acc.length := by simp [Eng.ids]
  have gd := fun κ cs => getB_tr i.bA (idxOf e.ids) (idx_srt hn) (by rw [idx_len hn, hal]; have := hr.la; omega) p.debit κ cs
  have gc := fun κ cs => getB_tr i.bA (idxOf e.ids) (idx_srt hn) (by rw [idx_len hn, hal]; have := hr.la; omega) p.credit κ cs
  rw [idx_get hn, hd] at gd
  rw [idx_get hn, hc'] at gc
  simp only [Option.map_some, Option.getD_some, Option.isSome_some] at gd gc
  refine .seq ?_
  refine .regD [(b, 0, [.slice i.pa e.acc.length i.ca, .slice (some ⟨bt, 0, none⟩) e.trs.length i.ct, .slice i.pr i.lb.length i.cr, ptrV i.bA, ptrV i.bI, .int .i64 e.time, .int .i64 e.now]), (bt, 0 + ((k : Nat) : Int).toNat * 16, encT p)] [] ?_
  refine .mv 0 ?_
  refine .nc 1 ?_
  refine .fa 2 ?_
  refine .fa 3 ?_
  refine .ld 4 ?_
  refine .mv 5 ?_
  refine .nc 6 ?_
  refine .fa 7 ?_
  refine .lx 8 (show getV true (encT p) 2 2 = some (.agg (nm p.debit).toArray) from rfl) ?_
  refine .pm 9 [7, 0, 1, 2, 3, 4, 5, 6, 8] ?_
  refine .cl 9 (gd κ _) ?_
  refine .pm 9 [1, 2, 3, 4, 5, 6, 7, 0, 8] ?_
  refine .mv 10 ?_
  refine .ex 11 ?_
  refine .ex 12 ?_
  refine .as 13 ?_
  refine .as 14 ?_
  refine .go ?_
  refine .seq ?_
  refine .regD [(b, 0, [.slice i.pa e.acc.length i.ca, .slice (some ⟨bt, 0, none⟩) e.trs.length i.ct, .slice i.pr i.lb.length i.cr, ptrV i.bA, ptrV i.bI, .int .i64 e.time, .int .i64 e.now]), (bt, 0 + ((k : Nat) : Int).toNat * 16, encT p)] [] ?_
  refine .mv 0 ?_
  refine .nc 1 ?_
  refine .fa 2 ?_
  refine .fa 3 ?_
  refine .ld 4 ?_
  refine .mv 5 ?_
  refine .nc 6 ?_
  refine .fa 7 ?_
  refine .lx 8 (show getV true (encT p) 4 2 = some (.agg (nm p.credit).toArray) from rfl) ?_
  refine .pm 9 [7, 0, 1, 2, 3, 4, 5, 6, 8] ?_
  refine .cl 9 (gc κ _) ?_
  refine .pm 9 [1, 2, 3, 4, 5, 6, 7, 0, 8] ?_
  refine .mv 10 ?_
  refine .ex 11 ?_
  refine .ex 12 ?_
  refine .as 13 ?_
  refine .as 14 ?_
  refine .go ?_
  have hrest := second_rest b e { i with pt := some ⟨bt, 0, none⟩ } hi t p k d c bt b3 b8 b9 held n rfl hk hpe hdl hcl hnt hr hlt htl htm hev κ hκ cs
  rw [key]
  exact hrest.more ⟨rfl, rfl, rfl, rfl, rfl, rfl, rfl, trivial⟩
end Go.Proofs.YtpcechnalfaajaaDoor

/- What an engine keeps, as the walks ask it. -/
namespace Go.Proofs.YtpcechnalfaajaaDoor
open Go Go.Proofs

theorem bclr1_all : (List.range 256).all (fun f => decide (0 ≤ bclr (f : Int) 1) && decide (bclr (f : Int) 1 ≤ 255)) = true := by kernel_rfl
theorem bclr1 {f : Int} (h0 : 0 ≤ f) (h1 : f ≤ 255) : 0 ≤ bclr f 1 ∧ bclr f 1 ≤ 255 := by
  have := List.all_eq_true.1 bclr1_all f.toNat (by rw [List.mem_range]; omega)
  rw [show ((f.toNat : Nat) : Int) = f by omega] at this
  simpa using this
theorem ruleT_flags {t : Transfer} (h : ruleT t = 0) : 0 ≤ t.flags ∧ t.flags ≤ 255 := by
  unfold ruleT at h
  split at h
  · cases h
  · split at h
    · cases h
    · rename_i h2
      constructor <;> (apply Classical.byContradiction; intro h3; apply h2)
      · exact .inl (by omega)
      · exact .inr (.inl (by omega))
/-- What the walks ask of an engine: m bounds its times, and its lists' lengths. -/
structure EngW (m : Nat) (e : Eng) : Prop where
  hn : e.ids.Nodup
  hnt : e.tids.Nodup
  la : e.acc.length ≤ 32
  lt : e.trs.length ≤ 256
  lr : e.rws.length = e.acc.length
  lw : ∀ l ∈ e.rws, l.length ≤ m
  htm : 0 ≤ e.time ∧ e.time ≤ m
  hnow : 0 ≤ e.now ∧ e.now ≤ 9223372036854775807
  htick : ∀ p ∈ e.trs, 0 ≤ p.tick ∧ p.tick ≤ e.now
  hpay : ∀ id t, e.transfer id = some t → posN (e.payer t) e.ids ≠ none
  hpid : ∀ t ∈ e.trs, t.pid ≠ 0 → posN t.pid e.tids ≠ none
  hdc : ∀ p ∈ e.trs, (band p.flags 2 ≠ 0 ∨ p.state = 1) → posN p.debit e.ids ≠ none ∧ posN p.credit e.ids ≠ none
theorem EngW.rowOk {m : Nat} {e : Eng} (h : EngW m e) (hm : m < 80000) : RowOk e := ⟨by have := h.la; omega, h.lr, fun l hl => by have := h.lw l hl; omega⟩
/-- A transfer but for its state. -/
def coreT (t : Transfer) : Transfer := { t with state := 0 }
theorem core_eq {t t' : Transfer} (h : coreT t' = coreT t) : t'.id = t.id ∧ t'.debit = t.debit ∧ t'.credit = t.credit ∧ t'.amount = t.amount ∧ t'.pid = t.pid ∧ t'.timeout = t.timeout ∧ t'.ledger = t.ledger ∧ t'.flags = t.flags ∧ t'.time = t.time ∧ t'.tick = t.tick := by
  unfold coreT at h
  injection h with h1 h2 h3 h4 h5 h6 h7 h8 h9 h10
  exact ⟨h1, h2, h3, h4, h5, h6, h7, h8, h9, h10⟩
theorem core_at {l l' : List Transfer} (h : l'.map coreT = l.map coreT) (k : Nat) : coreT (l'.getD k zT) = coreT (l.getD k zT) := by
  have h1 : ∀ (l : List Transfer), coreT (l.getD k zT) = (l.map coreT).getD k (coreT zT) := fun l => by
    simp only [List.getD, List.getElem?_map]
    cases l[k]? <;> rfl
  rw [h1, h1, h]
theorem core_tids {l l' : List Transfer} (h : l'.map coreT = l.map coreT) : l'.map (·.id) = l.map (·.id) := by
  have h1 : ∀ (l : List Transfer), l.map (·.id) = (l.map coreT).map (·.id) := fun l => by rw [List.map_map]; rfl
  rw [h1, h1 l, h]
theorem core_payer {e e' : Eng} (h : e'.trs.map coreT = e.trs.map coreT) {t t' : Transfer} (ht : coreT t' = coreT t) : e'.payer t' = e.payer t := by
  have h1 : t'.pid = t.pid := (core_eq ht).2.2.2.2.1
  have h2 : t'.debit = t.debit := (core_eq ht).2.1
  have h3 : e'.tids = e.tids := core_tids h
  unfold Eng.payer Eng.transfer
  rw [h1, h2, h3]
  cases posN t.pid e.tids with
  | none => rfl
  | some k =>
    simp only [Option.map_some, Option.getD_some]
    rw [(core_eq (core_at h k)).2.1]
/-- What only transfers' states change. -/
theorem EngW.core {m : Nat} {e e' : Eng} (h : EngW m e) (hi : e'.ids = e.ids) (ht : e'.trs.map coreT = e.trs.map coreT) {m' : Nat} (lr : e'.rws.length = e'.acc.length) (lw : ∀ l ∈ e'.rws, l.length ≤ m') (htm : 0 ≤ e'.time ∧ e'.time ≤ m')
    (hnw : e.now ≤ e'.now ∧ e'.now ≤ 9223372036854775807) (hst : ∀ k, (e'.trs.getD k zT).state = 1 → (e.trs.getD k zT).state = 1) : EngW m' e' where
  hn := by rw [hi]; exact h.hn
  hnt := by
    have : e'.tids = e.tids := core_tids ht
    rw [this]; exact h.hnt
  la := by
    have : e'.acc.length = e.acc.length := by have := congrArg List.length hi; simpa [Eng.ids] using this
    rw [this]; exact h.la
  lt := by
    have : e'.trs.length = e.trs.length := by have := congrArg List.length ht; simpa using this
    rw [this]; exact h.lt
  lr := lr
  lw := lw
  htm := htm
  hnow := ⟨Int.le_trans h.hnow.1 hnw.1, hnw.2⟩
  htick := by
    intro p hp
    obtain ⟨k, hk, rfl⟩ := List.getElem_of_mem hp
    have hl : e'.trs.length = e.trs.length := by have := congrArg List.length ht; simpa using this
    have hk' : k < e.trs.length := by omega
    have h1 := core_at ht k
    rw [getD_at hk, getD_at hk'] at h1
    rw [(core_eq h1).2.2.2.2.2.2.2.2.2]
    have := h.htick _ (List.getElem_mem hk')
    omega
  hpay := by
    intro id t h1
    have h3 : e'.tids = e.tids := core_tids ht
    unfold Eng.transfer at h1
    rw [h3] at h1
    cases hp : posN id e.tids with
    | none => rw [hp] at h1; cases h1
    | some k =>
      rw [hp] at h1
      simp only [Option.map_some, Option.some.injEq] at h1
      have h2 := h.hpay id (e.trs.getD k zT) (by unfold Eng.transfer; rw [hp]; rfl)
      rw [core_payer ht (show coreT t = coreT (e.trs.getD k zT) from by rw [← h1]; exact core_at ht k), hi]
      exact h2
  hpid := by
    intro p hp hc
    have h3 : e'.tids = e.tids := core_tids ht
    obtain ⟨k, hk, rfl⟩ := List.getElem_of_mem hp
    have hl : e'.trs.length = e.trs.length := by have := congrArg List.length ht; simpa using this
    have hk' : k < e.trs.length := by omega
    have h1 := core_at ht k
    rw [getD_at hk, getD_at hk'] at h1
    have h4 := (core_eq h1).2.2.2.2.1
    rw [h4] at hc ⊢
    rw [h3]
    exact h.hpid _ (List.getElem_mem hk') hc
  hdc := by
    intro p hp hc
    obtain ⟨k, hk, rfl⟩ := List.getElem_of_mem hp
    have hl : e'.trs.length = e.trs.length := by have := congrArg List.length ht; simpa using this
    have hk' : k < e.trs.length := by omega
    have h1 := core_at ht k
    have hs := hst k
    rw [getD_at hk, getD_at hk'] at h1 hs
    have e1 := (core_eq h1).2.2.2.2.2.2.2.1
    have e2 := (core_eq h1).2.1
    have e3 := (core_eq h1).2.2.1
    rw [e1] at hc
    rw [e2, e3, hi]
    exact h.hdc _ (List.getElem_mem hk') (hc.imp id hs)
theorem setState_core (e : Eng) (k : Nat) (s : Int) : (e.setState k s).trs.map coreT = e.trs.map coreT := by
  show (e.trs.set k { e.trs.getD k zT with state := s }).map coreT = _
  rw [List.map_set]
  by_cases hk : k < e.trs.length
  · rw [getD_at hk]
    apply List.ext_getElem?
    intro j
    rw [List.getElem?_set]
    split
    · rename_i h; subst h; simp [hk]; rfl
    · rfl
  · rw [List.set_eq_of_length_le (by simp; omega)]
theorem row1_lw {e : Eng} {m : Nat} (h : ∀ l ∈ e.rws, l.length ≤ m) (id : Num) (ev : Int) (n : Num) (i : Nat) : ∀ l ∈ (e.row1 id ev n i).rws, l.length ≤ m + 1 := by
  intro l hl
  rcases List.mem_or_eq_of_mem_set hl with hl | rfl
  · have := h l hl; omega
  · rw [List.length_append]
    rcases Nat.lt_or_ge i e.rws.length with hj | hj
    · rw [getD_at hj]; have := h _ (List.getElem_mem hj); simp; omega
    · simp [List.getD, hj]
theorem EngW.mono {m m' : Nat} {e : Eng} (h : EngW m e) (hm : m ≤ m') : EngW m' e := { h with lw := fun l hl => Nat.le_trans (h.lw l hl) hm, htm := ⟨h.htm.1, by have := h.htm.2; omega⟩ }
/-- What a step does to all but rows and states. -/
structure Alike (e e' : Eng) : Prop where
  ids : e'.ids = e.ids
  trs : e'.trs.map coreT = e.trs.map coreT
  now : e'.now = e.now
theorem Alike.acc {e e' : Eng} (h : Alike e e') : e'.acc.length = e.acc.length := by have := congrArg List.length h.ids; simpa [Eng.ids] using this
theorem Alike.len {e e' : Eng} (h : Alike e e') : e'.trs.length = e.trs.length := by have := congrArg List.length h.trs; simpa using this
theorem Alike.rfl' (e : Eng) : Alike e e := ⟨rfl, rfl, rfl⟩
theorem Alike.trans {a b c : Eng} (h : Alike a b) (k : Alike b c) : Alike a c := ⟨k.ids.trans h.ids, k.trs.trans h.trs, k.now.trans h.now⟩
theorem expire1_w {m : Nat} {e : Eng} (h : EngW m e) (k : Nat) : EngW (m + 2) (e.expire1 k) ∧ Alike e (e.expire1 k) := by
  unfold Eng.expire1
  simp only
  split
  · exact ⟨h.mono (by omega), .rfl' e⟩
  · generalize e.amount (e.trs.getD k zT).id = held
    generalize (posN (e.trs.getD k zT).debit e.ids).getD 0 = d
    generalize (posN (e.trs.getD k zT).credit e.ids).getD 0 = c
    obtain ⟨A, h1, h2, h3⟩ := Eng.release_form e (e.trs.getD k zT) held d c true
    rw [h1]
    generalize he1 : ({ ({ e with acc := A } : Eng).setState k 4 with time := (({ e with acc := A } : Eng).setState k 4).time + 1 } : Eng) = e1
    have a1 : Alike e e1 := by
      rw [← he1]
      exact ⟨h3, setState_core _ _ _, rfl⟩
    have w1 : ∀ l ∈ e1.rws, l.length ≤ m := by rw [← he1]; exact h.lw
    show EngW (m + 2) ((e1.row1 _ _ _ d).row1 _ _ _ c) ∧ Alike e ((e1.row1 _ _ _ d).row1 _ _ _ c)
    have a2 : Alike e ((e1.row1 (e.trs.getD k zT).id (-1) held d).row1 (e.trs.getD k zT).id (-1) held c) := ⟨by rw [Eng.row1_ids, Eng.row1_ids, a1.ids], by rw [Eng.row1_trs, Eng.row1_trs, a1.trs], a1.now⟩
    refine ⟨h.core a2.ids a2.trs ?_ (row1_lw (row1_lw w1 _ _ _ _) _ _ _ _) ?_ ?_ ?_, a2⟩
    · rw [Eng.row1_rws_len, Eng.row1_rws_len, a2.acc, ← h.lr, ← he1]; rfl
    · rw [Eng.row1_time, Eng.row1_time, ← he1]
      have := h.htm
      show 0 ≤ e.time + 1 ∧ e.time + 1 ≤ _
      omega
    · rw [a2.now]; exact ⟨Int.le_refl _, h.hnow.2⟩
    · intro j
      rw [Eng.row1_trs, Eng.row1_trs, ← he1]
      show ((e.trs.set k { e.trs.getD k zT with state := 4 }).getD j zT).state = 1 → _
      simp only [List.getD, List.getElem?_set]
      split
      · rename_i h4
        split
        · intro h5; simp at h5
        · intro h5; simp [zT] at h5
      · exact id
theorem tick_w {m : Nat} {e : Eng} (h : EngW m e) (now : Int) (hn : e.now ≤ now ∧ now ≤ 9223372036854775807) : ∀ k, EngW (m + 2 * k) ((List.range k).foldl Eng.expire1 { e with now := now }) ∧ Alike { e with now := now } ((List.range k).foldl Eng.expire1 { e with now := now }) := by
  intro k
  induction k with
  | zero => exact ⟨h.core (e' := { e with now := now }) rfl rfl h.lr h.lw h.htm hn (fun _ => id), .rfl' _⟩
  | succ k ih =>
    rw [List.range_succ, List.foldl_append]
    have := expire1_w ih.1 k
    exact ⟨this.1, ih.2.trans this.2⟩
end Go.Proofs.YtpcechnalfaajaaDoor

/- engine: makeTransfer. -/
namespace Go.Proofs.YtpcechnalfaajaaDoor
open Go Go.Proofs

def mkT (e : Eng) (t : Transfer) (d c : Nat) : Eng × Int :=
  if c = d then (e, 16)
  else if (e.acc.getD d zA).ledger ≠ t.ledger ∨ (e.acc.getD c zA).ledger ≠ t.ledger then (e, 17)
  else if band (e.acc.getD d zA).flags 8 ≠ 0 then (e, 26)
  else if band (e.acc.getD c zA).flags 8 ≠ 0 then (e, 27)
  else e.first t d c
theorem makeTransfer_eq (e : Eng) (t : Transfer) : e.makeTransfer t = if ruleT t ≠ 0 then (e, ruleT t) else
  match e.transfer t.id with
  | some old => (e, againT t old)
  | none =>
    if e.trs.length = 256 then (e, 31) else
    if t.pid ≠ 0 then e.second t else
    match posN t.debit e.ids with
    | none => (e, 15)
    | some d => match posN t.credit e.ids with
      | none => (e, 16)
      | some c => mkT e t d c := rfl
set_option maxHeartbeats 2000000 in
theorem makeTransfer_tr (b : Nat) (e : Eng) (i : EngI) (hi : i.lb.length = e.rws.length) (t : Transfer) {m : Nat} (hm : m < 80000) (hW : EngW m e) (κ : Kap) (hκ : Laid κ) (cs : List HProp) :
    Te Tryd.prog 45 [.pointer (some ⟨b, 0, none⟩), .agg (encT t).toArray] κ (engO b e i cs) (fun i' : EngI => i'.lb.length = e.rws.length) (fun _ => .int .i64 (e.makeTransfer t).2) (fun i' => engO b (e.makeTransfer t).1 i' cs) := by
  refine .enter Tryd.func45 rfl rfl ?_
  have hn := hW.hn
  have hnt := hW.hnt
  have hr := hW.rowOk hm
  have hlt : ∀ l ∈ e.rws, l.length + 2 < 90000 := fun l hl => by have := hW.lw l hl; omega
  have htl : e.trs.length < 600 := by have := hW.lt; omega
  have htm : -1000000000000 ≤ e.time ∧ e.time ≤ 1000000000000 := by have := hW.htm; omega
  have hpay := hW.hpay
  have hdc : ∀ p ∈ e.trs, band p.flags 2 ≠ 0 → posN p.debit e.ids ≠ none ∧ posN p.credit e.ids ≠ none := fun p hp h => hW.hdc p hp (.inl h)
  have hla := hr.la
  have hil : e.ids.length = e.acc.length := by simp [Eng.ids]
  refine .seq ?_
  refine .reg ?_
  refine .bx fun b3 => ?_
  refine .as ?_
  refine .go ?_
  refine .seq ?_
  refine .seq ?_
  refine .reg ?_
  rw [vc_agg]
  refine .ld (v := .agg (encT t).toArray) ?_
  refine .cl (ruleT_tr t κ _) ?_
  have key := makeTransfer_eq e t
  refine .as ?_
  refine .go ?_
  refine .seq ?_
  refine .reg ?_
  refine .mv ?_
  refine .ne ?_
  refine .go ?_
  refine .cond rfl (fun hc => ?_) (fun hc => ?_)
  · refine .seq ?_
    refine .reg ?_
    refine .mv ?_
    refine .as ?_
    refine .go ?_
    refine .r1 fun w hs => ?_
    have k2 := key.trans (if_pos (of_decide_eq_true hc))
    rw [k2]
    exact ⟨i, hi, rfl, hs.rows⟩
  have hev : -1000000000000 ≤ bclr t.flags 1 ∧ bclr t.flags 1 ≤ 1000000000000 := by have h := ruleT_flags (t := t) (by have := of_decide_eq_false hc; omega); have := bclr1 h.1 h.2; omega
  have key := key.trans (if_neg (of_decide_eq_false hc))
  refine .go ?_
  refine .seq ?_
  refine .seq ?_
  refine .reg ?_
  refine .mv ?_
  refine .fa ?_
  refine .ld (v := .agg (nm t.id).toArray) ?_
  refine .cl (Tr.ef1 (trans_tr b e hnt (by omega) i t.id κ _)) ?_
  cases hp : e.transfer t.id with
  | some old =>
    rw [hp] at key
    have k2 : e.makeTransfer t = (e, againT t old) := key
    rw [k2]
    refine .mv ?_
    refine .ex ?_
    refine .ex ?_
    refine .al fun b6 => ?_
    refine .stw (v := .agg (encT old).toArray) ?_
    rw [vc_agg]
    refine .as ?_
    refine .go ?_
    refine .seq ?_
    refine .reg ?_
    refine .mv ?_
    refine .go ?_
    refine .cond rfl (fun hc => ?_) (fun hc => by cases hc)
    refine .seq ?_
    refine .reg ?_
    refine .ld (v := .agg (encT t).toArray) ?_
    refine .ld (v := .agg (encT old).toArray) ?_
    refine .cl (againT_tr t old κ _) ?_
    refine .as ?_
    refine .go ?_
    refine .r1 fun w hs => ?_
    exact ⟨i, hi, rfl, hs.rows.rows⟩
  | none =>
  rw [hp] at key
  simp only at key
  refine .mv ?_
  refine .ex ?_
  refine .ex ?_
  refine .al fun b6 => ?_
  refine .stw (v := .agg (encT zT).toArray) ?_
  refine .pm 2 [1] ?_
  refine .as ?_
  refine .go ?_
  refine .seq ?_
  refine .reg ?_
  refine .mv ?_
  refine .go ?_
  refine .cond rfl (fun hc => by cases hc) (fun hc => ?_)
  refine .go ?_
  refine .seq ?_
  refine .seq ?_
  refine .reg ?_
  refine .mv ?_
  refine .nc ?_
  refine .fa ?_
  refine .fa ?_
  refine .ld ?_
  refine .ln ?_
  refine .eq ?_
  refine .go ?_
  refine .cond rfl (fun hc => ?_) (fun hc => ?_)
  · refine .seq ?_
    refine .reg ?_
    refine .as ?_
    refine .go ?_
    refine .r1 fun w hs => ?_
    have h256 : e.trs.length = 256 := by have := of_decide_eq_true hc; omega
    have k2 := key.trans (if_pos h256)
    rw [k2]
    exact ⟨i, hi, rfl, hs.rows⟩
  have h256 : ¬ e.trs.length = 256 := by have := of_decide_eq_false hc; omega
  have key := key.trans (if_neg h256)
  refine .go ?_
  refine .seq ?_
  refine .seq ?_
  refine .reg ?_
  refine .fa ?_
  refine .ld (v := .agg (nm t.pid).toArray) ?_
  refine .bz ?_
  refine .nen t.pid 0 ?_
  refine .go ?_
  refine .cond rfl (fun hc => ?_) (fun hc => ?_)
  · have h1 : t.pid ≠ 0 := by simpa using hc
    have k2 := key.trans (if_pos h1)
    refine .seq ?_
    refine .reg ?_
    refine .mv ?_
    refine .ld (v := .agg (encT t).toArray) ?_
    refine .sat (cs' := engO b e i cs) (fun w hs => hs.rows) ?_
    refine .ce (second_tr b e i hi t hn hnt hr hlt htl htm hev hpay hdc κ hκ cs) (fun i' hi' => ?_)
    refine .as ?_
    refine .go ?_
    refine .r1 fun w hs => ?_
    rw [k2]
    exact ⟨i', hi', rfl, hs⟩
  have h1 : ¬ t.pid ≠ 0 := by simpa using hc
  have key := key.trans (if_neg h1)
  refine .go ?_
  have gd := fun κ cs => getB_tr i.bA (idxOf e.ids) (idx_srt hn) (by rw [idx_len hn, hil]; omega) t.debit κ cs
  have gc := fun κ cs => getB_tr i.bA (idxOf e.ids) (idx_srt hn) (by rw [idx_len hn, hil]; omega) t.credit κ cs
  rw [idx_get hn] at gd gc
  refine .seq ?_
  refine .regD [(b, 0, [.slice i.pa e.acc.length i.ca, .slice i.pt e.trs.length i.ct, .slice i.pr i.lb.length i.cr, ptrV i.bA, ptrV i.bI, .int .i64 e.time, .int .i64 e.now]), (b3, 0, encT t)] [] ?_
  refine .mv 0 ?_
  refine .nc 1 ?_
  refine .fa 2 ?_
  refine .fa 3 ?_
  refine .ld 4 ?_
  refine .fa 5 ?_
  refine .ld 6 (v := .agg (nm t.debit).toArray) ?_
  refine .pm 7 [5, 0, 1, 2, 3, 4, 6] ?_
  refine .cl 7 (gd κ _) ?_
  refine .pm 7 [1, 2, 3, 4, 5, 0, 6] ?_
  cases hd : posN t.debit e.ids with
  | none =>
    rw [hd] at key
    simp only [Option.map_none, Option.getD_none, Option.isSome_none]
    refine .mv 8 ?_
    refine .ex 9 ?_
    refine .ex 10 ?_
    refine .as 11 ?_
    refine .as 12 ?_
    refine .go ?_
    refine .seq ?_
    refine .seq ?_
    refine .reg ?_
    refine .mv ?_
    refine .nt ?_
    refine .go ?_
    refine .cond rfl (fun hc => ?_) (fun hc => by cases hc)
    refine .seq ?_
    refine .reg ?_
    refine .as ?_
    refine .go ?_
    refine .r1 fun w hs => ?_
    have k2 : e.makeTransfer t = (e, 15) := key.trans (rfl)
    rw [k2]
    exact ⟨i, hi, rfl, hs.rows⟩
  | some d =>
  rw [hd] at key
  have hdl : d < e.acc.length := by obtain ⟨h, _⟩ := posN_some hd; omega
  simp only [Option.map_some, Option.getD_some, Option.isSome_some]
  refine .mv 8 ?_
  refine .ex 9 ?_
  refine .ex 10 ?_
  refine .as 11 ?_
  refine .as 12 ?_
  refine .go ?_
  refine .seq ?_
  refine .seq ?_
  refine .reg ?_
  refine .mv ?_
  refine .nt ?_
  refine .go ?_
  refine .cond rfl (fun hc => by cases hc) (fun hc => ?_)
  refine .go ?_
  refine .seq ?_
  refine .regD [(b, 0, [.slice i.pa e.acc.length i.ca, .slice i.pt e.trs.length i.ct, .slice i.pr i.lb.length i.cr, ptrV i.bA, ptrV i.bI, .int .i64 e.time, .int .i64 e.now]), (b3, 0, encT t)] [] ?_
  refine .mv 0 ?_
  refine .nc 1 ?_
  refine .fa 2 ?_
  refine .fa 3 ?_
  refine .ld 4 ?_
  refine .fa 5 ?_
  refine .ld 6 (v := .agg (nm t.credit).toArray) ?_
  refine .pm 7 [5, 0, 1, 2, 3, 4, 6] ?_
  refine .cl 7 (gc κ _) ?_
  refine .pm 7 [1, 2, 3, 4, 5, 0, 6] ?_
  cases hc' : posN t.credit e.ids with
  | none =>
    rw [hc'] at key
    simp only [Option.map_none, Option.getD_none, Option.isSome_none]
    refine .mv 8 ?_
    refine .ex 9 ?_
    refine .ex 10 ?_
    refine .as 11 ?_
    refine .as 12 ?_
    refine .go ?_
    refine .seq ?_
    refine .block ?_
    refine .seq ?_
    refine .reg ?_
    refine .mv ?_
    refine .nt ?_
    refine .mv ?_
    repeat refine .skip ?_
    first | refine .pt ?_ | refine .pf ?_
    refine .as ?_
    refine .go ?_
    refine .cond rfl (fun hc => ?_) (fun hc => by cases hc)
    refine .seq ?_
    refine .reg ?_
    refine .as ?_
    refine .go ?_
    refine .r1 fun w hs => ?_
    have k2 : e.makeTransfer t = (e, 16) := key.trans (rfl)
    rw [k2]
    exact ⟨i, hi, rfl, hs.rows⟩
  | some c =>
  rw [hc'] at key
  have hcl : c < e.acc.length := by obtain ⟨h, _⟩ := posN_some hc'; omega
  simp only [Option.map_some, Option.getD_some, Option.isSome_some]
  have key : e.makeTransfer t = mkT e t d c := key
  unfold mkT at key
  rw [getD_at hdl, getD_at hcl] at key
  refine .mv 8 ?_
  refine .ex 9 ?_
  refine .ex 10 ?_
  refine .as 11 ?_
  refine .as 12 ?_
  refine .go ?_
  refine .seq ?_
  refine .block ?_
  refine .seq ?_
  refine .reg ?_
  refine .mv ?_
  refine .nt ?_
  refine .mv ?_
  refine .mv ?_
  refine .mv ?_
  refine .eq ?_
  first | refine .pt ?_ | refine .pf ?_
  refine .as ?_
  refine .go ?_
  refine .cond rfl (fun hc => ?_) (fun hc => ?_)
  · have hcd : c = d := by have := of_decide_eq_true hc; omega
    refine .seq ?_
    refine .reg ?_
    refine .as ?_
    refine .go ?_
    refine .r1 fun w hs => ?_
    have k2 : e.makeTransfer t = (e, 16) := key.trans (if_pos hcd)
    rw [k2]
    exact ⟨i, hi, rfl, hs.rows⟩
  have hcd : ¬ c = d := by have := of_decide_eq_false hc; omega
  have key := key.trans (if_neg hcd)
  refine .slp (p := i.pa) (cap := i.ca) (sz := 46) (n0 := e.acc.length) (by omega) (fun ba hba _ => ?_)
  rw [hba]
  have hgd : getV false (e.acc.flatMap encA) (((d : Nat) : Int).toNat * 46 + 2) 1 = some (.int .i64 e.acc[d].ledger) := flat_get encA 46 encA_len e.acc d 2 1 false _ hdl rfl
  have hgc : getV false (e.acc.flatMap encA) (((c : Nat) : Int).toNat * 46 + 2) 1 = some (.int .i64 e.acc[c].ledger) := flat_get encA 46 encA_len e.acc c 2 1 false _ hcl rfl
  refine .jn (ι := Unit) (fun _ => [(0, .pointer (some ⟨b, 0, none⟩)), (3, .pointer (some ⟨b3, 0, none⟩)), (4, .int .i64 0), (8, .int .i64 d), (10, .int .i64 c), (73, .bool (decide (e.acc[d].ledger ≠ t.ledger ∨ e.acc[c].ledger ≠ t.ledger)))]) (fun _ => pts b3 (43, encT t) :: engO b e { i with pa := some ⟨ba, 0, none⟩ } cs) (fun _ => True) ?_ fun _ _ => ?_
  · refine .regD [(b, 0, [.slice (some ⟨ba, 0, none⟩) e.acc.length i.ca, .slice i.pt e.trs.length i.ct, .slice i.pr i.lb.length i.cr, ptrV i.bA, ptrV i.bI, .int .i64 e.time, .int .i64 e.now]), (b3, 0, encT t), (ba, 0, e.acc.flatMap encA)] [] ?_
    refine .mv 0 ?_
    refine .nc 1 ?_
    refine .fa 2 ?_
    refine .fa 3 ?_
    refine .ld 4 ?_
    refine .mv 5 ?_
    refine .ix 6 ?_
    refine .fa 7 ?_
    rw [Nat.add_assoc 0 (((d : Nat) : Int).toNat * 46) 2]
    refine .lx 8 hgd ?_
    refine .fa 9 ?_
    refine .ld 10 (v := .int .i64 t.ledger) ?_
    refine .ne 11 ?_
    refine .mv 12 ?_
    by_cases h2 : e.acc[d].ledger ≠ t.ledger
    · rw [decide_eq_true h2, decide_eq_true (.inl h2)]
      refine .skip 13 ?_
      refine .skip 14 ?_
      refine .skip 15 ?_
      refine .skip 16 ?_
      refine .skip 17 ?_
      refine .skip 18 ?_
      refine .skip 19 ?_
      refine .skip 20 ?_
      refine .skip 21 ?_
      refine .skip 22 ?_
      refine .skip 23 ?_
      refine .skip 24 ?_
      refine .pt 25 ?_
      refine .as 26 ?_
      exact .nil fun aa w hf hs => ⟨(), trivial, hf.to (by repeat (first | exact trivial | refine ⟨rfl, ?_⟩)), hs⟩
    · rw [decide_eq_false h2]
      refine .mv 13 ?_
      refine .nc 14 ?_
      refine .fa 15 ?_
      refine .fa 16 ?_
      refine .ld 17 ?_
      refine .mv 18 ?_
      refine .ix 19 ?_
      refine .fa 20 ?_
      rw [Nat.add_assoc 0 (((c : Nat) : Int).toNat * 46) 2]
      refine .lx 21 hgc ?_
      refine .fa 22 ?_
      refine .ld 23 (v := .int .i64 t.ledger) ?_
      refine .ne 24 ?_
      refine .pf 25 ?_
      refine .as 26 ?_
      rw [show decide (e.acc[d].ledger ≠ t.ledger ∨ e.acc[c].ledger ≠ t.ledger) = decide (e.acc[c].ledger ≠ t.ledger) from by rw [decide_eq_decide]; exact ⟨fun h => h.resolve_left h2, .inr⟩]
      exact .nil fun aa w hf hs => ⟨(), trivial, hf.to (by repeat (first | exact trivial | refine ⟨rfl, ?_⟩)), hs⟩
  refine .cond rfl (fun hc => ?_) (fun hc => ?_)
  · have hc := of_decide_eq_true hc
    refine .seq ?_
    refine .reg ?_
    refine .as ?_
    refine .go ?_
    refine .r1 fun w hs => ?_
    have k2 : e.makeTransfer t = (e, 17) := key.trans (if_pos hc)
    rw [k2]
    exact ⟨{ i with pa := some ⟨ba, 0, none⟩ }, hi, rfl, hs.rows⟩
  have key := key.trans (if_neg (of_decide_eq_false hc))
  have hA : ∀ (cs : List HProp) [RdAt ba cs 0 (e.acc.flatMap encA)], RdAt ba cs (0 + ((d : Nat) : Int).toNat * 46) (encA e.acc[d]) := fun cs h => h.sub encA_len d hdl
  refine .seq ?_
  refine .reg ?_
  refine .mv ?_
  refine .nc ?_
  refine .fa ?_
  refine .fa ?_
  refine .ld ?_
  refine .mv ?_
  refine .ix ?_
  refine .fa ?_
  refine .lx (show getV false (encA e.acc[d]) 3 1 = some (.int .i64 e.acc[d].flags) from rfl) ?_
  refine .an ?_
  refine .ne ?_
  refine .as ?_
  refine .go ?_
  clear hA
  refine .cond rfl (fun hc => ?_) (fun hc => ?_)
  · have hc := of_decide_eq_true hc
    refine .seq ?_
    refine .reg ?_
    refine .as ?_
    refine .go ?_
    refine .r1 fun w hs => ?_
    have k2 : e.makeTransfer t = (e, 26) := key.trans (if_pos hc)
    rw [k2]
    exact ⟨{ i with pa := some ⟨ba, 0, none⟩ }, hi, rfl, hs.rows⟩
  have key := key.trans (if_neg (of_decide_eq_false hc))
  have hA : ∀ (cs : List HProp) [RdAt ba cs 0 (e.acc.flatMap encA)], RdAt ba cs (0 + ((c : Nat) : Int).toNat * 46) (encA e.acc[c]) := fun cs h => h.sub encA_len c hcl
  refine .seq ?_
  refine .reg ?_
  refine .mv ?_
  refine .nc ?_
  refine .fa ?_
  refine .fa ?_
  refine .ld ?_
  refine .mv ?_
  refine .ix ?_
  refine .fa ?_
  refine .lx (show getV false (encA e.acc[c]) 3 1 = some (.int .i64 e.acc[c].flags) from rfl) ?_
  refine .an ?_
  refine .ne ?_
  refine .as ?_
  refine .go ?_
  clear hA
  refine .cond rfl (fun hc => ?_) (fun hc => ?_)
  · have hc := of_decide_eq_true hc
    refine .seq ?_
    refine .reg ?_
    refine .as ?_
    refine .go ?_
    refine .r1 fun w hs => ?_
    have k2 : e.makeTransfer t = (e, 27) := key.trans (if_pos hc)
    rw [k2]
    exact ⟨{ i with pa := some ⟨ba, 0, none⟩ }, hi, rfl, hs.rows⟩
  have key := key.trans (if_neg (of_decide_eq_false hc))
  refine .go ?_
  refine .seq ?_
  refine .reg ?_
  refine .mv ?_
  refine .ld (v := .agg (encT t).toArray) ?_
  refine .mv ?_
  refine .mv ?_
  refine .sat (cs' := engO b e { i with pa := some ⟨ba, 0, none⟩ } cs) (fun w hs => hs.rows) ?_
  refine .ce (first_tr b e { i with pa := some ⟨ba, 0, none⟩ } hi t d c hdl hcl hr hlt hnt htl htm hev κ hκ cs) (fun i' hi' => ?_)
  refine .as ?_
  refine .go ?_
  refine .r1 fun w hs => ?_
  rw [key]
  exact ⟨i', hi', rfl, hs⟩
end Go.Proofs.YtpcechnalfaajaaDoor
