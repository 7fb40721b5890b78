/- Part 7 of the proof: U28, U29, U30, V21, U31, U32, V22, U33, U34, U35, U36. -/
import Derived.Test.YtpcechnalfaajaaDoorP6
/- engine: tick. -/
namespace Go.Proofs.YtpcechnalfaajaaDoor
open Go Go.Proofs

set_option maxHeartbeats 2000000 in
theorem tick_tr (b : Nat) (e : Eng) (i : EngI) (hi : i.lb.length = e.rws.length) (now : Int) {m : Nat} (hm : m + 600 < 80000) (hW : EngW m e) (hnow : e.now ≤ now ∧ now ≤ 9223372036854775807) (κ : Kap) (hκ : Laid κ) (cs : List HProp) :
    Tr Tryd.prog 46 [.pointer (some ⟨b, 0, none⟩), .int .i64 now] κ (engO b e i cs) (.tuple #[]) (engO b (e.tick now) i cs) := by
  refine .enter Tryd.func46 rfl rfl ?_
  refine .seq ?_
  refine .reg ?_
  refine .mv ?_
  refine .mv ?_
  refine .nc ?_
  refine .fa ?_
  refine .st ?_
  refine .go ?_
  refine .seq ?_
  refine .reg ?_
  refine .mv ?_
  refine .nc ?_
  refine .fa ?_
  refine .fa ?_
  refine .ld ?_
  refine .ln ?_
  refine .mv ?_
  refine .go ?_
  refine .block ?_
  have hlt := hW.lt
  refine .lp (fun k : Nat => [(0, .pointer (some ⟨b, 0, none⟩)), (1, .int .i64 now), (20, .int .i64 e.trs.length), (21, .int .i64 k)])
    (fun k => engO b ((List.range k).foldl Eng.expire1 { e with now := now }) i cs) (fun k => k ≤ e.trs.length) (fun k => e.trs.length - k) 0 (by omega) (by repeat (first | exact trivial | refine ⟨rfl, ?_⟩)) rfl fun k hk => ?_
  refine .seq ?_
  refine .reg ?_
  refine .lt ?_
  refine .go ?_
  refine .seq ?_
  refine .cond rfl (fun hc => ?_) (fun hc => ?_)   -- t22
  · have hkl : k < e.trs.length := by have := of_decide_eq_true hc; omega
    obtain ⟨hE, hA⟩ := tick_w hW now hnow k
    have hsucc : (List.range (k + 1)).foldl Eng.expire1 { e with now := now } = ((List.range k).foldl Eng.expire1 { e with now := now }).expire1 k := by rw [List.range_succ, List.foldl_append]; rfl
    have hAl := hA.len
    have hAa := hA.acc
    have hAn : _ = now := hA.now
    have hiE : i.lb.length = ((List.range k).foldl Eng.expire1 { e with now := now }).rws.length := by rw [hE.lr, hAa, hi, hW.lr]
    generalize (List.range k).foldl Eng.expire1 { e with now := now } = E at *
    have hk1 : k < E.trs.length := by rw [hAl]; exact hkl
    refine .go ?_
    refine .slp (p := i.pt) (cap := i.ct) (sz := 16) (n0 := E.trs.length) (by omega) (fun bt hbt _ => ?_)
    obtain ⟨pa, ca, pt, ct, pr, cr, bA, bI, lb⟩ := i
    simp only at hbt hi hiE
    subst hbt
    have hpk : E.trs.getD k zT = E.trs[k] := getD_at hk1
    have hpm : E.trs[k] ∈ E.trs := List.getElem_mem hk1
    have hT : ∀ (cs : List HProp) [RdAt bt cs 0 (E.trs.flatMap encT)], RdAt bt cs (0 + ((k : Nat) : Int).toNat * 16) (encT E.trs[k]) := fun cs h => h.sub encT_len k hk1
    generalize hpe : E.trs[k] = p at *
    have htick := hE.htick p hpm
    rw [hAn] at htick
    refine .seq ?_
    refine .block ?_
    refine .seq ?_
    refine .reg ?_
    refine .mv ?_
    refine .as ?_
    refine .go ?_
    refine .seq ?_
    refine .reg ?_
    refine .mv ?_
    refine .nc ?_
    refine .fa ?_
    refine .fa ?_
    refine .ld ?_
    refine .mv ?_
    refine .ix ?_
    refine .as ?_
    refine .go ?_
    refine .seq ?_
    refine .jn (ι := Unit) (fun _ => [(0, .pointer (some ⟨b, 0, none⟩)), (1, .int .i64 now), (20, .int .i64 e.trs.length), (21, .int .i64 k), (5, .pointer (some ⟨bt, 0 + ((k : Nat) : Int).toNat * 16, none⟩)), (55, .bool (decide (p.state ≠ 1 ∨ p.timeout ≤ 0 ∨ now - p.tick < p.timeout)))])
      (fun _ => engO b E ⟨pa, ca, some ⟨bt, 0, none⟩, ct, pr, cr, bA, bI, lb⟩ cs) (fun _ => True) ?_ fun _ _ => ?_
    · refine .regD [(bt, 0 + ((k : Nat) : Int).toNat * 16, encT p)] [] ?_
      refine .mv 0 ?_
      refine .nc 1 ?_
      refine .fa 2 ?_
      refine .lx 3 (show getV false (encT p) 15 1 = some (.int .i64 p.state) from rfl) ?_
      refine .ne 4 ?_
      refine .mv 5 ?_
      by_cases h1 : p.state ≠ 1
      · rw [decide_eq_true h1, decide_eq_true (.inl h1)]
        refine .skip 6 ?_
        refine .skip 7 ?_
        refine .skip 8 ?_
        refine .skip 9 ?_
        refine .skip 10 ?_
        refine .pt 11 ?_
        refine .mv 12 ?_
        refine .skip 13 ?_
        refine .skip 14 ?_
        refine .skip 15 ?_
        refine .skip 16 ?_
        refine .skip 17 ?_
        refine .skip 18 ?_
        refine .skip 19 ?_
        refine .skip 20 ?_
        refine .skip 21 ?_
        refine .skip 22 ?_
        refine .skip 23 ?_
        refine .pt 24 ?_
        exact .nil fun aa w hf hs => ⟨(), trivial, hf.to (by repeat (first | exact trivial | refine ⟨rfl, ?_⟩)), hs⟩
      · rw [decide_eq_false h1]
        refine .mv 6 ?_
        refine .nc 7 ?_
        refine .fa 8 ?_
        refine .lx 9 (show getV false (encT p) 10 1 = some (.int .i64 p.timeout) from rfl) ?_
        refine .le 10 ?_
        refine .pf 11 ?_
        refine .mv 12 ?_
        by_cases h2 : p.timeout ≤ 0
        · rw [decide_eq_true h2, decide_eq_true (.inr (.inl h2))]
          refine .skip 13 ?_
          refine .skip 14 ?_
          refine .skip 15 ?_
          refine .skip 16 ?_
          refine .skip 17 ?_
          refine .skip 18 ?_
          refine .skip 19 ?_
          refine .skip 20 ?_
          refine .skip 21 ?_
          refine .skip 22 ?_
          refine .skip 23 ?_
          refine .pt 24 ?_
          exact .nil fun aa w hf hs => ⟨(), trivial, hf.to (by repeat (first | exact trivial | refine ⟨rfl, ?_⟩)), hs⟩
        · rw [decide_eq_false h2]
          refine .mv 13 ?_
          refine .nc 14 ?_
          refine .fa 15 ?_
          refine .lx 16 (show getV false (encT p) 10 1 = some (.int .i64 p.timeout) from rfl) ?_
          refine .mv 17 ?_
          refine .mv 18 ?_
          refine .nc 19 ?_
          refine .fa 20 ?_
          refine .lx 21 (show getV false (encT p) 14 1 = some (.int .i64 p.tick) from rfl) ?_
          refine .sb 22 ?_
          refine .gt 23 ?_
          refine .pf 24 ?_
          rw [show decide (p.state ≠ 1 ∨ p.timeout ≤ 0 ∨ now - p.tick < p.timeout) = decide (now - p.tick < p.timeout) from by rw [decide_eq_decide]; exact ⟨fun h => (h.resolve_left h1).resolve_left h2, fun h => .inr (.inr h)⟩]
          exact .nil fun aa w hf hs => ⟨(), trivial, hf.to (by repeat (first | exact trivial | refine ⟨rfl, ?_⟩)), hs⟩
    refine .cond rfl (fun hc => ?_) (fun hc => ?_)
    · have hc := of_decide_eq_true hc
      refine .xgo ?_
      refine .reg ?_
      refine .ad ?_
      refine .mv ?_
      refine .nil fun aa w hf hs => ⟨k + 1, by omega, by omega, hf.to (by repeat (first | exact trivial | refine ⟨rfl, ?_⟩)), ?_⟩
      rw [hsucc]
      have he : E.expire1 k = E := by unfold Eng.expire1; rw [hpk]; exact if_pos (by rw [hAn]; exact hc)
      rw [he]
      exact hs
    · have hc := of_decide_eq_false hc
      have hst : p.state = 1 := Classical.byContradiction fun h => hc (.inl h)
      obtain ⟨hpd, hpc⟩ := hE.hdc p hpm (.inr hst)
      obtain ⟨d, hd⟩ := Option.ne_none_iff_exists'.1 hpd
      obtain ⟨c, hc'⟩ := Option.ne_none_iff_exists'.1 hpc
      have hdl : d < E.acc.length := by obtain ⟨h, _⟩ := posN_some hd; simpa [Eng.ids] using h
      have hcl : c < E.acc.length := by obtain ⟨h, _⟩ := posN_some hc'; simpa [Eng.ids] using h
      have hal : E.ids.length = E.acc.length := by simp [Eng.ids]
      have hla := hE.la
      have hlt2 := hE.lt
      have gd := fun κ cs => getB_tr bA (idxOf E.ids) (idx_srt hE.hn) (by rw [idx_len hE.hn, hal]; omega) p.debit κ cs
      have gc := fun κ cs => getB_tr bA (idxOf E.ids) (idx_srt hE.hn) (by rw [idx_len hE.hn, hal]; omega) p.credit κ cs
      rw [idx_get hE.hn, hd] at gd
      rw [idx_get hE.hn, hc'] at gc
      simp only [Option.map_some, Option.getD_some, Option.isSome_some] at gd gc
      have hmE : m + 2 * k < 80000 := by omega
      have hrE : RowOk E := hE.rowOk hmE
      refine .go ?_
      refine .seq ?_
      refine .reg ?_
      refine .mv ?_
      refine .mv ?_
      refine .nc ?_
      refine .fa ?_
      refine .lx (show getV true (encT p) 0 2 = some (.agg (nm p.id).toArray) from rfl) ?_
      refine .cl (amount_tr b E hE.hn hE.hnt hrE (by omega) ⟨pa, ca, some ⟨bt, 0, none⟩, ct, pr, cr, bA, bI, lb⟩ hiE p.id (hE.hpay p.id) κ _) ?_
      have key : E.expire1 k = (let e2 := (E.release p (E.amount p.id) d c true).setState k 4
        ({ e2 with time := e2.time + 1 } : Eng).row p.id (-1) (E.amount p.id) [d, c]) := by
        unfold Eng.expire1
        rw [hpk]
        simp only
        rw [if_neg (by rw [hAn]; exact hc), hd, hc']
        rfl
      generalize E.amount p.id = held at *
      refine .al fun b6 => ?_
      refine .stw ?_
      refine .go ?_
      rw [vc_agg]
      refine .seq ?_
      refine .regD [(b, 0, [.slice pa E.acc.length ca, .slice (some ⟨bt, 0, none⟩) E.trs.length ct, .slice pr lb.length cr, ptrV bA, ptrV bI, .int .i64 E.time, .int .i64 E.now]), (bt, 0 + ((k : Nat) : Int).toNat * 16, encT p)] [] ?_
      refine .mv 0 ?_
      refine .nc 1 ?_
      refine .fa 2 ?_
      refine .fa 3 ?_
      refine .ld 4 ?_
      refine .mv 5 ?_
      refine .nc 6 ?_
      refine .fa 7 ?_
      refine .lx 8 (show getV true (encT p) 2 2 = some (.agg (nm p.debit).toArray) from rfl) ?_
      refine .pm 7 [5, 0, 1, 2, 3, 4, 6] ?_
      refine .cl 9 (gd κ _) ?_
      refine .pm 7 [1, 2, 3, 4, 5, 0, 6] ?_
      refine .mv 10 ?_
      refine .ex 11 ?_
      refine .ex 12 ?_
      refine .as 13 ?_
      refine .as 14 ?_
      refine .go ?_
      refine .seq ?_
      refine .regD [(b, 0, [.slice pa E.acc.length ca, .slice (some ⟨bt, 0, none⟩) E.trs.length ct, .slice pr lb.length cr, ptrV bA, ptrV bI, .int .i64 E.time, .int .i64 E.now]), (bt, 0 + ((k : Nat) : Int).toNat * 16, encT p)] [] ?_
      refine .mv 0 ?_
      refine .nc 1 ?_
      refine .fa 2 ?_
      refine .fa 3 ?_
      refine .ld 4 ?_
      refine .mv 5 ?_
      refine .nc 6 ?_
      refine .fa 7 ?_
      refine .lx 8 (show getV true (encT p) 4 2 = some (.agg (nm p.credit).toArray) from rfl) ?_
      refine .pm 7 [5, 0, 1, 2, 3, 4, 6] ?_
      refine .cl 9 (gc κ _) ?_
      refine .pm 7 [1, 2, 3, 4, 5, 0, 6] ?_
      refine .mv 10 ?_
      refine .ex 11 ?_
      refine .ex 12 ?_
      refine .as 13 ?_
      refine .as 14 ?_
      refine .go ?_
      refine .seq ?_
      refine .reg ?_
      refine .mv ?_
      refine .mv ?_
      refine .ldw ?_
      refine .mv ?_
      refine .mv ?_
      have hrel := release_tr b E ⟨pa, ca, some ⟨bt, 0, none⟩, ct, pr, cr, bA, bI, lb⟩ hiE bt k rfl hk1 held d c hdl hcl true
      rw [hpe] at hrel
      refine .cl (Tr.ef1 (hrel κ _)) ?_
      obtain ⟨A1, e1, l1, m1⟩ := Eng.release_form E p held d c true
      have hp4 : putN (E.trs.flatMap encT) (0 + ((k : Nat) : Int).toNat * 16 + 15) [.int .i64 4] = some ((E.trs.set k { p with state := 4 }).flatMap encT) := by
        rw [Nat.zero_add]
        exact flat_put (j := k) encT_len hk1 (by rw [hpe]; rfl)
      have hl4 : (E.trs.set k { p with state := 4 }).length = E.trs.length := by simp
      have hm4 : (E.trs.set k { p with state := 4 }).map (·.id) = E.trs.map (·.id) := tids_set (by rw [hpk])
      have hg4 : ∀ h, (E.trs.set k { p with state := 4 })[k]'h = { p with state := 4 } := fun h => by simp
      have key : E.expire1 k = (⟨A1, E.trs.set k { p with state := 4 }, E.rws, E.time + 1, E.now⟩ : Eng).row p.id (-1) held [d, c] := by
        rw [key, e1, ← hpk]; rfl
      rw [e1]
      refine .sat (cs' := pts b6 (24, nm held) :: pts b (92, [.slice pa A1.length ca, .slice (some ⟨bt, 0, none⟩) E.trs.length ct, .slice pr lb.length cr, ptrV bA, ptrV bI, .int .i64 E.time, .int .i64 E.now]) ::
    sl 46 (.slice pa A1.length ca) (37, A1.flatMap encA) :: sl 16 (.slice (some ⟨bt, 0, none⟩) E.trs.length ct) (43, E.trs.flatMap encT) :: sl 1 (.slice pr lb.length cr) (72, lb.map ptrV) ::
    ixB bA (idxOf (A1.map (·.id))) :: ixB bI (idxOf (E.trs.map (·.id))) :: (rowsP E.rws lb ++ cs)) (fun w hs => hs) ?_
      have htm := hE.htm
      refine .go ?_
      refine .seq ?_
      refine .reg ?_
      refine .mv ?_
      refine .nc ?_
      refine .fa ?_
      refine .sx hp4 ?_
      clear hT
      generalize E.trs.set k { p with state := 4 } = T1 at *
      have hk4 : k < T1.length := by omega
      have hT : ∀ (cs : List HProp) [RdAt bt cs 0 (T1.flatMap encT)], RdAt bt cs (0 + ((k : Nat) : Int).toNat * 16) (encT T1[k]) := fun cs h => h.sub encT_len k hk4
      rw [hg4 hk4] at hT
      refine .go ?_
      refine .seq ?_
      refine .reg ?_
      refine .mv ?_
      refine .nc ?_
      refine .fa ?_
      refine .ld ?_
      refine .ad ?_
      refine .nc ?_
      refine .fa ?_
      refine .st ?_
      refine .go ?_
      refine .regD [(b6, 0, nm held), (bt, 0 + ((k : Nat) : Int).toNat * 16, encT { p with state := 4 })] [] ?_
      refine .mv 0 ?_
      refine .mv 1 ?_
      refine .nc 2 ?_
      refine .fa 3 ?_
      refine .lx 4 (show getV true (encT { p with state := 4 }) 0 2 = some (.agg (nm p.id).toArray) from rfl) ?_
      refine .ldw 5 ?_
      refine .mv 6 ?_
      refine .mv 7 ?_
      refine .bs 8 fun b112 => ?_
      obtain ⟨A2, R2, hrow⟩ : ∃ A2 R2, (⟨A1, T1, E.rws, E.time + 1, E.now⟩ : Eng).row p.id (-1) held [d, c] = ⟨A2, T1, R2, E.time + 1, E.now⟩ := ⟨_, _, rfl⟩
      have hw0 : ∀ l ∈ E.rws, l.length + 2 < 90000 := fun l hl => by have := hE.lw l hl; omega
      have hr2 : RowOk ⟨A1, T1, E.rws, E.time + 1, E.now⟩ := ⟨by show A1.length < 700; omega, by show E.rws.length = A1.length; rw [l1]; exact hE.lr, fun l hl => by have := hw0 l hl; show l.length < 90000; omega⟩
      have hrw := erow_tr b p.id (-1) (by omega) held [d, c] (by simp) κ hκ ⟨pa, ca, some ⟨bt, 0, none⟩, ct, pr, cr, bA, bI, lb⟩ b112 (pts b6 (24, nm held) :: cs) ⟨A1, T1, E.rws, E.time + 1, E.now⟩ hiE (hr2.two hw0 p.id (-1) held d c)
        (fun j hj => by
          show j < A1.length
          rw [l1]
          rcases List.mem_cons.1 hj with rfl | hj
          · exact hdl
          · rw [List.mem_singleton.1 hj]; exact hcl)
      rw [hrow] at hrw
      refine .cl (v := .tuple #[]) (cs' := pts b6 (24, nm held) :: pts b112 (3, cells .i64 ([d, c].map fun (k : Nat) => (k : Int))) :: pts b (92, [.slice pa A2.length ca, .slice (some ⟨bt, 0, none⟩) T1.length ct, .slice pr lb.length cr, ptrV bA, ptrV bI, .int .i64 (E.time + 1), .int .i64 E.now]) ::
    sl 46 (.slice pa A2.length ca) (37, A2.flatMap encA) :: sl 16 (.slice (some ⟨bt, 0, none⟩) T1.length ct) (43, T1.flatMap encT) :: sl 1 (.slice pr lb.length cr) (72, lb.map ptrV) ::
    ixB bA (idxOf (A2.map (·.id))) :: ixB bI (idxOf (T1.map (·.id))) :: (rowsP R2 lb ++ cs)) 9 (fun w hs => (hrw w ?_).mono fun _ _ h => ⟨h.1, ?_⟩) ?_
      · have h3 : Sat κ w ([pts b112 (3, cells .i64 ([d, c].map fun (k : Nat) => (k : Int))), pts b6 (24, nm held)] ++ engO b ⟨A1, T1, E.rws, E.time + 1, E.now⟩ ⟨pa, ca, some ⟨bt, 0, none⟩, ct, pr, cr, bA, bI, lb⟩ cs) := by
          show Sat κ w (pts b112 (3, cells .i64 ([d, c].map fun (k : Nat) => (k : Int))) :: pts b6 (24, nm held) :: pts b (92, [.slice pa A1.length ca, .slice (some ⟨bt, 0, none⟩) T1.length ct, .slice pr lb.length cr, ptrV bA, ptrV bI, .int .i64 (E.time + 1), .int .i64 E.now]) ::
    sl 46 (.slice pa A1.length ca) (37, A1.flatMap encA) :: sl 16 (.slice (some ⟨bt, 0, none⟩) T1.length ct) (43, T1.flatMap encT) :: sl 1 (.slice pr lb.length cr) (72, lb.map ptrV) ::
    ixB bA (idxOf (A1.map (·.id))) :: ixB bI (idxOf (T1.map (·.id))) :: (rowsP E.rws lb ++ cs))
          rw [hl4, hm4]
          exact hs
        exact h3.imp fun _ hg => (eng_back [pts b112 (3, cells .i64 ([d, c].map fun (k : Nat) => (k : Int)))]).2 ((eng_back [pts b112 (3, cells .i64 ([d, c].map fun (k : Nat) => (k : Int))), pts b6 (24, nm held)]).1 hg)
      · have h3 : Sat κ _ ([pts b112 (3, cells .i64 ([d, c].map fun (k : Nat) => (k : Int))), pts b6 (24, nm held)] ++ engO b ⟨A2, T1, R2, E.time + 1, E.now⟩ ⟨pa, ca, some ⟨bt, 0, none⟩, ct, pr, cr, bA, bI, lb⟩ cs) := h.2.imp fun _ hg => (eng_back [pts b112 (3, cells .i64 ([d, c].map fun (k : Nat) => (k : Int))), pts b6 (24, nm held)]).2 ((eng_back [pts b112 (3, cells .i64 ([d, c].map fun (k : Nat) => (k : Int)))]).1 hg)
        exact h3.pm 2 [1, 0]
      · refine .go ?_
        refine .reg ?_
        refine .ad ?_
        refine .mv ?_
        refine .nil fun aa w hf hs => ⟨k + 1, by omega, by omega, hf.to (by repeat (first | exact trivial | refine ⟨rfl, ?_⟩)), ?_⟩
        rw [hsucc, key, hrow]
        exact hs.pm 2 []
  · have hkn : k = e.trs.length := by have := of_decide_eq_false hc; omega
    subst hkn
    refine .x0 fun w hs => ?_
    exact ⟨rfl, hs⟩
end Go.Proofs.YtpcechnalfaajaaDoor

/- engine: Copy. -/
namespace Go.Proofs.YtpcechnalfaajaaDoor
open Go Go.Proofs

theorem eng_last {κ : Kap} {g : Hp} {b : Nat} {e : Eng} {i : EngI} {x : HProp} {A cs : List HProp} (F : List HProp) (h : sepL κ (x :: (F ++ engO b e i (A ++ cs))) g) : sepL κ (F ++ engO b e i (A ++ x :: cs)) g := by
  refine sepL_tails (fun g h => ?_) F (sepL_in F h)
  have h1 := (eng_back [x]).1 h
  exact sepL_tails (fun g h => sepL_tails (fun g h => sepL_in A h) (rowsP e.rws i.lb) h) [_, _, _, _, _, _] h1
abbrev CpI := Nat × List Nat × Option Addr × Nat
set_option maxHeartbeats 2000000 in
theorem ecopy_tr (b : Nat) (e : Eng) (i : EngI) (hi : i.lb.length = e.rws.length) {m : Nat} (hm : m < 80000) (hW : EngW m e) (κ : Kap) (cs : List HProp) :
    Te Tryd.prog 36 [.pointer (some ⟨b, 0, none⟩)] κ (engO b e i cs) (fun j : Nat × EngI => j.2.lb.length = e.rws.length) (fun j => .pointer (some ⟨j.1, 0, none⟩)) (fun j => engO j.1 e j.2 (engO b e i cs)) := by
  refine .enter Tryd.func36 rfl rfl ?_
  have hla := hW.la
  have hlt := hW.lt
  have hlr := hW.lr
  have hil : e.ids.length = e.acc.length := by simp [Eng.ids]
  have htl : e.tids.length = e.trs.length := by simp [Eng.tids]
  refine .seq ?_
  refine .reg ?_
  refine .as ?_
  refine .go ?_
  refine .seq ?_
  refine .reg ?_
  refine .mv ?_
  refine .nc ?_
  refine .ld (v := .agg #[.slice i.pa e.acc.length i.ca, .slice i.pt e.trs.length i.ct, .slice i.pr i.lb.length i.cr, ptrV i.bA, ptrV i.bI, .int .i64 e.time, .int .i64 e.now]) ?_
  refine .al fun b3 => ?_
  refine .stw ?_
  refine .go ?_
  refine .seq ?_
  refine .reg ?_
  refine .mv ?_
  refine .nc ?_
  refine .fa ?_
  refine .fa ?_
  refine .ld ?_
  refine .rds i.pa e.acc.length i.ca 46 (hrd := by intro b hb; unfold engO engH; rw [hb]; infer_instance) fun hrd1 _ => ?_
  refine .ns 46 37 ?_
  refine .ap hrd1.tail (fun p14 c14 => ?_) (show (e.acc.flatMap encA).length = e.acc.length * 46 by rw [flat_len encA 46 encA_len]) (one_flat encA encA_one _)
  refine .fa ?_
  refine .fa ?_
  refine .st ?_
  refine .go ?_
  refine .seq ?_
  refine .reg ?_
  refine .mv ?_
  refine .nc ?_
  refine .fa ?_
  refine .fa ?_
  refine .ld ?_
  refine .rds i.pt e.trs.length i.ct 16 (hrd := by intro b hb; unfold engO engH; rw [hb]; infer_instance) fun hrd2 _ => ?_
  refine .ns 16 43 ?_
  refine .ap hrd2.tail (fun p22 c22 => ?_) (show (e.trs.flatMap encT).length = e.trs.length * 16 by rw [flat_len encT 16 encT_len]) (one_flat encT encT_one _)
  refine .fa ?_
  refine .fa ?_
  refine .st ?_
  refine .go ?_
  refine .seq ?_
  refine .reg ?_
  refine .fa ?_
  refine .fa ?_
  refine .st ?_
  refine .go ?_
  refine .seq ?_
  refine .seq ?_
  refine .reg ?_
  refine .mv ?_
  refine .nc ?_
  refine .fa ?_
  refine .fa ?_
  refine .ld ?_
  refine .ln ?_
  refine .mv ?_
  refine .go ?_
  refine .block ?_
  refine .sat (cs' := pts b3 (92, [.slice p14 e.acc.length c14, .slice p22 e.trs.length c22, .slice ((0, [], none, 0) : CpI).2.2.1 ((0, [], none, 0) : CpI).2.1.length ((0, [], none, 0) : CpI).2.2.2, ptrV i.bA, ptrV i.bI, .int .i64 e.time, .int .i64 e.now]) :: sl 1 (.slice ((0, [], none, 0) : CpI).2.2.1 ((0, [], none, 0) : CpI).2.1.length ((0, [], none, 0) : CpI).2.2.2) (72, ((0, [], none, 0) : CpI).2.1.map ptrV) :: sl 46 (.slice p14 e.acc.length c14) (37, e.acc.flatMap encA) :: sl 16 (.slice p22 e.trs.length c22) (43, e.trs.flatMap encT) :: engO b e i (rowsP (e.rws.take ((0, [], none, 0) : CpI).1) ((0, [], none, 0) : CpI).2.1 ++ cs)) (fun w hs => by rw [Nat.zero_add e.trs.length, Nat.zero_add e.acc.length] at hs; exact (hs.nilS 1 72).pm 4 [3, 0, 2, 1]) ?_
  refine .lp (fun x : CpI => [(0, .pointer (some ⟨b, 0, none⟩)), (3, .pointer (some ⟨b3, 0, none⟩)), (31, .slice i.pr i.lb.length i.cr), (32, .int .i64 i.lb.length), (33, .int .i64 x.1)])
    (fun x => pts b3 (92, [.slice p14 e.acc.length c14, .slice p22 e.trs.length c22, .slice x.2.2.1 x.2.1.length x.2.2.2, ptrV i.bA, ptrV i.bI, .int .i64 e.time, .int .i64 e.now]) :: sl 1 (.slice x.2.2.1 x.2.1.length x.2.2.2) (72, x.2.1.map ptrV) :: sl 46 (.slice p14 e.acc.length c14) (37, e.acc.flatMap encA) :: sl 16 (.slice p22 e.trs.length c22) (43, e.trs.flatMap encT) :: engO b e i (rowsP (e.rws.take x.1) x.2.1 ++ cs)) (fun x => x.1 ≤ e.rws.length ∧ x.2.1.length = x.1) (fun x => e.rws.length - x.1) (0, [], none, 0) (by exact ⟨by omega, rfl⟩) (by repeat (first | exact trivial | refine ⟨rfl, ?_⟩)) rfl fun x hx => ?_
  obtain ⟨k, lb, pr, cr⟩ := x
  simp only at hx
  obtain ⟨hk, hlb⟩ := hx
  refine .sat (cs' := pts b3 (92, [.slice p14 e.acc.length c14, .slice p22 e.trs.length c22, .slice pr lb.length cr, ptrV i.bA, ptrV i.bI, .int .i64 e.time, .int .i64 e.now]) :: sl 1 (.slice pr lb.length cr) (72, lb.map ptrV) :: sl 46 (.slice p14 e.acc.length c14) (37, e.acc.flatMap encA) :: sl 16 (.slice p22 e.trs.length c22) (43, e.trs.flatMap encT) :: engO b e i (rowsP (e.rws.take k) lb ++ cs)) (fun w hs => hs) ?_
  refine .seq ?_
  refine .reg ?_
  refine .lt ?_
  refine .go ?_
  refine .seq ?_
  refine .cond rfl (fun hc => ?_) (fun hc => ?_)
  · have hkl : k < e.rws.length := by have : (k : Int) < i.lb.length := of_decide_eq_true hc; omega
    have hkb : k < i.lb.length := by omega
    have hgb : getV false (i.lb.map ptrV) (((k : Nat) : Int).toNat * 1) 1 = some (ptrV i.lb[k]) := by
      rw [Nat.mul_one]; simp [getV, get1_eq, hkb]
    refine .go ?_
    refine .slp (p := i.pr) (cap := i.cr) (sz := 1) (n0 := i.lb.length) (by omega) (fun bp hbp _ => ?_)
    refine .sat (fun w hs => (eng_listF [_, _, _, _] hkl hi).1 hs) ?_
    simp only [List.cons_append, List.nil_append]
    have hrl : (e.rws[k]).length < 100000 := by have := hW.lw _ (List.getElem_mem hkl); omega
    unfold engH
    rw [hbp]
    refine .seq ?_
    refine .block ?_
    refine .seq ?_
    refine .reg ?_
    refine .ix ?_
    refine .lx hgb ?_
    refine .as ?_
    refine .go ?_
    refine .regD [(b3, 0, [.slice p14 e.acc.length c14, .slice p22 e.trs.length c22, .slice pr lb.length cr, ptrV i.bA, ptrV i.bI, .int .i64 e.time, .int .i64 e.now])] [9] ?_
    refine .fa 0 ?_
    refine .fa 1 ?_
    refine .ld 2 ?_
    refine .mv 3 ?_
    refine .ce 4 (rcopyB_tr i.lb[k] e.rws[k] hrl κ _) (fun b' _ => ?_)
    refine .bs1 (v := ptrV b') (m := 1) 5 (fun b42 => ?_) rfl
    refine .ap (src := [ptrV b']) (k := 1) (m := 1) 6 (.inr ⟨b42, 0, rfl, .ofRd (h := .head)⟩) (fun p43 c43 => ?_) rfl rfl
    refine .fa 7 ?_
    refine .fa 8 ?_
    refine .st 9 ?_
    refine .go ?_
    refine .reg ?_
    refine .ad ?_
    refine .mv ?_
    refine .nil fun aa w hf hs => ⟨(k + 1, lb ++ [b'], p43, c43), ⟨by show k + 1 ≤ _; omega, by simp [hlb]⟩, by show _ - (k + 1) < _ - k; omega, hf.to (by repeat (first | exact trivial | refine ⟨rfl, ?_⟩)), ?_⟩
    have h1 := hs.rows.pm 2 [1, 0]
    rw [← hbp] at h1
    have h2 := (eng_listF [_, _, _, _, _] hkl hi).2 h1
    have h3 := h2.imp fun _ hg => eng_last [_, _, _, _] hg
    have hrp : rowsP (e.rws.take (k + 1)) (lb ++ [b']) = rowsP (e.rws.take k) lb ++ [lstB b' e.rws[k]] := by
      rw [List.take_succ_eq_append_getElem hkl]
      exact rowsP_app (e.rws.take k) lb [e.rws[k]] [b'] (by simp [hlb]; omega)
    show Sat κ w (pts b3 (92, [.slice p14 e.acc.length c14, .slice p22 e.trs.length c22, .slice p43 (lb ++ [b']).length c43, ptrV i.bA, ptrV i.bI, .int .i64 e.time, .int .i64 e.now]) :: sl 1 (.slice p43 (lb ++ [b']).length c43) (72, (lb ++ [b']).map ptrV) :: sl 46 (.slice p14 e.acc.length c14) (37, e.acc.flatMap encA) :: sl 16 (.slice p22 e.trs.length c22) (43, e.trs.flatMap encT) :: engO b e i (rowsP (e.rws.take (k + 1)) (lb ++ [b']) ++ cs))
    rw [hrp, List.append_assoc, List.length_append, List.map_append]
    exact h3
  · have hkn : k = e.rws.length := by have : ¬ (k : Int) < i.lb.length := of_decide_eq_false hc; omega
    subst hkn
    rw [List.take_length]
    refine .xgo ?_
    refine .seq ?_
    refine .regD [(b, 0, [.slice i.pa e.acc.length i.ca, .slice i.pt e.trs.length i.ct, .slice i.pr i.lb.length i.cr, ptrV i.bA, ptrV i.bI, .int .i64 e.time, .int .i64 e.now])] [] ?_
    refine .mv 0 ?_
    refine .nc 1 ?_
    refine .fa 2 ?_
    refine .fa 3 ?_
    refine .ld 4 ?_
    refine .mv 6 ?_
    refine .nc 7 ?_
    refine .fa 8 ?_
    refine .fa 9 ?_
    refine .ld 10 ?_
    refine .pm 10 [8, 0, 1, 2, 3, 4, 5, 6, 7, 9] ?_
    refine .ce 5 (copyX_tr i.bA (idxOf e.ids) (idx_srt hW.hn) (by rw [idx_len hW.hn, hil]; omega) κ _) (fun nA _ => ?_)
    refine .pm 11 [10, 0, 1, 2, 3, 4, 5, 6, 7, 8, 9] ?_
    refine .ce 11 (copyX_tr i.bI (idxOf e.tids) (idx_srt hW.hnt) (by rw [idx_len hW.hnt, htl]; omega) κ _) (fun nI _ => ?_)
    refine .fa 12 ?_
    refine .fa 13 ?_
    refine .st 14 ?_
    refine .fa 15 ?_
    refine .fa 16 ?_
    refine .st 17 ?_
    refine .go ?_
    refine .seq ?_
    refine .reg ?_
    refine .as ?_
    refine .go ?_
    refine .r1 fun w hs => ?_
    refine ⟨(b3, ⟨p14, c14, p22, c22, pr, cr, nA, nI, lb⟩), hlb, rfl, ?_⟩
    have h1 := hs.pm 12 [4, 6, 7, 5, 2, 0, 8, 9, 10, 11, 3, 1]
    have h2 := h1.imp fun _ hg => (eng_back [_, _, _, _, _, _]).1 hg
    have h3 : Sat κ w (engO b e i (([_, _, _, _, _, _] ++ rowsP e.rws lb) ++ cs)) := h2
    have h4 := h3.imp fun _ hg => (eng_back ([_, _, _, _, _, _] ++ rowsP e.rws lb)).2 hg
    exact h4
end Go.Proofs.YtpcechnalfaajaaDoor

/- engine: Accounts. -/
namespace Go.Proofs.YtpcechnalfaajaaDoor
open Go Go.Proofs

theorem Co.slq {P : Program} {Q : Exit → Act → World → Prop} {n : Nd} {κ : Kap} {fr : List (Nat × Value)} {cs : List HProp} {c : Code} {p : Option Addr} {n0 cap sz : Nat} {x : TypeId × List Value} {F : HProp → List HProp} (k : (n0 = 0 ∨ ∃ b, p = some ⟨b, 0, none⟩) → Co P Q n κ c fr cs) (h : Ob (sl sz) (.slice p n0 cap) cs x F := by infer_instance) : Co P Q n κ c fr cs := by
  rcases Nat.eq_zero_or_pos n0 with h0 | h0
  · exact k (.inl h0)
  · exact Co.slp h0 (fun b hb _ => k (.inr ⟨b, hb⟩)) h
/-- All accounts, rising by their numbers. -/
def Eng.accounts (e : Eng) : List Account := (idxOf e.ids).map fun kv => e.acc.getD kv.2.toNat zA
abbrev AccS := List Account
def accStep (e : Eng) (s : AccS) (x : KV) : AccS := s ++ [e.acc.getD x.2.toNat zA]
def accOk (e : Eng) (s : AccS) (x : KV) : Prop := 0 ≤ x.2 ∧ x.2 < e.acc.length ∧ s.length < 1000
theorem foldl_acc (e : Eng) : ∀ (m : List KV) (s : AccS), m.foldl (accStep e) s = s ++ m.map fun kv => e.acc.getD kv.2.toNat zA := by
  intro m
  induction m with
  | nil => intro s; simp
  | cons x m ih => intro s; rw [List.foldl_cons, ih]; simp [accStep]
theorem okF_acc (e : Eng) : ∀ (m : List KV) (s : AccS), (∀ x ∈ m, 0 ≤ x.2 ∧ x.2 < e.acc.length) → s.length + m.length < 1000 → okF (accOk e) (accStep e) s m := by
  intro m
  induction m with
  | nil => intro s _ _; trivial
  | cons x m ih =>
    intro s h hl
    have h1 := h x (List.mem_cons_self ..)
    simp only [List.length_cons] at hl
    refine ⟨⟨h1.1, h1.2, by omega⟩, ih _ (fun y hy => h y (List.mem_cons_of_mem _ hy)) ?_⟩
    simp [accStep]; omega
set_option maxHeartbeats 2000000 in
theorem accounts_tr (b : Nat) (e : Eng) (i : EngI) (hidx : ∀ x ∈ idxOf e.ids, 0 ≤ x.2 ∧ x.2 < e.acc.length) (hl : (idxOf e.ids).length < 700) (κ : Kap) (cs : List HProp) :
    Te Tryd.prog 35 [.pointer (some ⟨b, 0, none⟩)] κ (engO b e i cs) (fun _ : Option Addr × Nat => True) (fun j => .slice j.1 e.accounts.length j.2) (fun j => sl 46 (.slice j.1 e.accounts.length j.2) (37, e.accounts.flatMap encA) :: engO b e i cs) := by
  refine .enterM Tryd.func35 rfl rfl ?_
  refine .slq (p := i.pa) (n0 := e.acc.length) (cap := i.ca) (sz := 46) (fun hba => ?_)
  refine .seq ?_
  refine .reg ?_
  refine .bx fun b1 => ?_
  refine .as ?_
  refine .go ?_
  refine .seq ?_
  refine .reg ?_
  refine .al fun b3 => ?_
  refine .go ?_
  refine .seq ?_
  refine .seq ?_
  refine .reg ?_
  refine .ld ?_
  refine .nc ?_
  refine .fa ?_
  refine .fa ?_
  refine .ld ?_
  refine .mf ?_
  refine .go ?_
  refine .block ?_
  have hF := foldl_acc e (idxOf e.ids) []
  rw [List.nil_append] at hF
  have hF : (idxOf e.ids).foldl (accStep e) [] = e.accounts := hF
  have hok := okF_acc e (idxOf e.ids) [] hidx (by simpa using Nat.lt_of_lt_of_le hl (by decide))
  refine .rf (p := fun _ : Option Addr × Nat => True) (v := .tuple #[]) (cs' := fun j => [pts b3 (38, [.slice j.1 e.accounts.length j.2]), sl 46 (.slice j.1 e.accounts.length j.2) (37, e.accounts.flatMap encA), pts b1 (27, [ptrV b]), pts b (92, [.slice i.pa e.acc.length i.ca, .slice i.pt e.trs.length i.ct, .slice i.pr i.lb.length i.cr, ptrV i.bA, ptrV i.bI, .int .i64 e.time, .int .i64 e.now]), sl 46 (.slice i.pa e.acc.length i.ca) (37, e.acc.flatMap encA)] ++ (sl 16 (.slice i.pt e.trs.length i.ct) (43, e.trs.flatMap encT) :: sl 1 (.slice i.pr i.lb.length i.cr) (72, i.lb.map ptrV) :: ixB i.bA (idxOf e.ids) :: ixB i.bI (idxOf e.tids) :: (rowsP e.rws i.lb ++ cs))) (fun lp rb r h1 h2 h3 h4 h5 hf => ?_) (fun rb j _ => ?_)
  · have hfeed : Feed Tryd.prog κ lp encKV (accOk e) (fun s => exB (fun _ : Option Addr × Nat => True) fun j => pob lp (.loop r) :: [pts b3 (38, [.slice j.1 s.length j.2]), sl 46 (.slice j.1 s.length j.2) (37, s.flatMap encA), pts b1 (27, [ptrV b]), pts b (92, [.slice i.pa e.acc.length i.ca, .slice i.pt e.trs.length i.ct, .slice i.pr i.lb.length i.cr, ptrV i.bA, ptrV i.bI, .int .i64 e.time, .int .i64 e.now]), sl 46 (.slice i.pa e.acc.length i.ca) (37, e.acc.flatMap encA)]) (accStep e) := by
      refine feed_of (σ := AccS) (α := KV) (enc := encKV) (ok := accOk e) (step := accStep e) (n := ⟨_, []⟩) h1 h2 (fun x => by rw [h3]; rfl) (fun _ (_ : Option Addr × Nat) => True) (fun s j => [pts b3 (38, [.slice j.1 s.length j.2]), sl 46 (.slice j.1 s.length j.2) (37, s.flatMap encA), pts b1 (27, [ptrV b]), pts b (92, [.slice i.pa e.acc.length i.ca, .slice i.pt e.trs.length i.ct, .slice i.pr i.lb.length i.cr, ptrV i.bA, ptrV i.bI, .int .i64 e.time, .int .i64 e.now]), sl 46 (.slice i.pa e.acc.length i.ca) (37, e.acc.flatMap encA)]) rfl (by rw [h3]; decide) hf
        (ι2 := KV × AccS × Option Addr × Nat) (fun j => [(1, .pointer (some ⟨b1, 0, none⟩)), (3, .pointer (some ⟨b3, 0, none⟩)), (5, .int .i64 j.1.2)]) (fun j => [pts b3 (38, [.slice j.2.2.1 j.2.1.length j.2.2.2]), sl 46 (.slice j.2.2.1 j.2.1.length j.2.2.2) (37, j.2.1.flatMap encA), pts b1 (27, [ptrV b]), pts b (92, [.slice i.pa e.acc.length i.ca, .slice i.pt e.trs.length i.ct, .slice i.pr i.lb.length i.cr, ptrV i.bA, ptrV i.bI, .int .i64 e.time, .int .i64 e.now]), sl 46 (.slice i.pa e.acc.length i.ca) (37, e.acc.flatMap encA)]) (fun s _ x j => j.1 = x ∧ j.2.1 = s) ?_ ?_
      · intro s j x F hok _
        rw [h3, h4]
        simp only [List.cons_append, List.nil_append]
        refine .reg ?_
        refine .as ?_
        exact .nil fun aa w hf hs => ⟨(x, s, j), ⟨rfl, rfl⟩, hf.to (by repeat (first | exact trivial | refine ⟨rfl, ?_⟩)), hs⟩
      · intro s _ x j F hok _ hj
        obtain ⟨y, s', p, c⟩ := j
        obtain ⟨h6, h7⟩ := hj
        simp only at h6 h7
        subst h6 h7
        obtain ⟨hv0, hv1, hsl⟩ := hok
        obtain ⟨ba, hba⟩ := hba.resolve_left (by omega)
        rw [h5]
        obtain ⟨v, hv⟩ : ∃ v : Nat, y.2 = (v : Int) := ⟨y.2.toNat, by omega⟩
        have hvl : v < e.acc.length := by omega
        have hg : getV true (e.acc.flatMap encA) (((v : Nat) : Int).toNat * 46) 46 = some (.agg (encA e.acc[v]).toArray) := flat_get encA 46 encA_len e.acc v 0 46 true _ hvl (getV_whole (encA_len _))
        have hstep : accStep e s' y = s' ++ [e.acc[v]] := by unfold accStep; rw [hv, Int.toNat_natCast, getD_at hvl]
        simp only [List.cons_append, List.nil_append]
        rw [hba, hv, hstep]
        refine .block ?_
        refine .regD [(b3, 0, [.slice p s'.length c]), (b1, 0, [ptrV b]), (b, 0, [.slice (some ⟨ba, 0, none⟩) e.acc.length i.ca, .slice i.pt e.trs.length i.ct, .slice i.pr i.lb.length i.cr, ptrV i.bA, ptrV i.bI, .int .i64 e.time, .int .i64 e.now]), (ba, 0, e.acc.flatMap encA)] [11] ?_
        refine .ld 0 ?_
        refine .ld 1 ?_
        refine .nc 2 ?_
        refine .fa 3 ?_
        refine .fa 4 ?_
        refine .ld 5 ?_
        refine .mv 6 ?_
        refine .ix 7 ?_
        refine .lx 8 hg ?_
        refine .bs1 (v := .agg (encA e.acc[v]).toArray) (m := 46) 9 (fun b23 => ?_) (encA_len _)
        rw [vc_agg]
        refine .ap (src := encA e.acc[v]) (k := 1) (m := 46) 10 (.inr ⟨b23, 0, rfl, .ofRd (h := .head)⟩) (fun p24 c24 => ?_) (encA_len _) (encA_one _)
        refine .st 11 ?_
        have hlr : (s' ++ [e.acc[v]]).length = List.length s' + 1 := by simp
        have hft : (s' ++ [e.acc[v]]).flatMap encA = List.flatMap encA s' ++ encA e.acc[v] := by simp
        rw [← hlr, ← hft]
        refine .nil fun aa w hf hs => ⟨(p24, c24), trivial, ?_⟩
        exact hs.rows
    intro w hs
    have hs2 : Sat κ w (exB (fun _ : Option Addr × Nat => True) (fun j => pob lp (.loop r) :: [pts b3 (38, [.slice j.1 ([] : AccS).length j.2]), sl 46 (.slice j.1 ([] : AccS).length j.2) (37, ([] : AccS).flatMap encA), pts b1 (27, [ptrV b]), pts b (92, [.slice i.pa e.acc.length i.ca, .slice i.pt e.trs.length i.ct, .slice i.pr i.lb.length i.cr, ptrV i.bA, ptrV i.bI, .int .i64 e.time, .int .i64 e.now]), sl 46 (.slice i.pa e.acc.length i.ca) (37, e.acc.flatMap encA)]) :: ixB i.bA (idxOf e.ids) :: pob rb (.deferred (some [])) :: sl 16 (.slice i.pt e.trs.length i.ct) (43, e.trs.flatMap encT) :: sl 1 (.slice i.pr i.lb.length i.cr) (72, i.lb.map ptrV) ::  ixB i.bI (idxOf e.tids) :: (rowsP e.rws i.lb ++ cs)) :=
      ((hs.nilS 46 37).pm 11 [1, 3, 0, 4, 5, 6, 9, 2, 7, 8, 10]).imp fun g hg => exB_in (none, 0) trivial hg
    refine (all_tr hfeed i.bA (idxOf e.ids) (by omega) [] _ hok w hs2).mono fun e' w' ⟨he, hs3⟩ => ?_
    rw [hF] at hs3
    obtain ⟨g, s0, d0, hg⟩ := hs3.ex
    obtain ⟨j, _, hx⟩ := exB_out hg
    have hs4 : Sat κ w' (pob lp (.loop r) :: ([pts b3 (38, [.slice j.1 e.accounts.length j.2]), sl 46 (.slice j.1 e.accounts.length j.2) (37, e.accounts.flatMap encA), pts b1 (27, [ptrV b]), pts b (92, [.slice i.pa e.acc.length i.ca, .slice i.pt e.trs.length i.ct, .slice i.pr i.lb.length i.cr, ptrV i.bA, ptrV i.bI, .int .i64 e.time, .int .i64 e.now]), sl 46 (.slice i.pa e.acc.length i.ca) (37, e.acc.flatMap encA)] ++ (ixB i.bA (idxOf e.ids) :: pob rb (.deferred (some [])) :: sl 16 (.slice i.pt e.trs.length i.ct) (43, e.trs.flatMap encT) :: sl 1 (.slice i.pr i.lb.length i.cr) (72, i.lb.map ptrV) ::  ixB i.bI (idxOf e.tids) :: (rowsP e.rws i.lb ++ cs)))) := ⟨hs3.os, hs3.tape, hs3.out, hs3.ro, g, s0, d0, hx⟩
    exact ⟨j, trivial, he, hs4.pm 10 [0, 7, 1, 2, 3, 4, 5, 8, 9, 6]⟩
  · show Co _ _ _ _ _ _ _
    simp only [List.cons_append, List.nil_append]
    refine .seq ?_
    refine .reg ?_
    refine .ld ?_
    refine .as ?_
    refine .go ?_
    refine .r1M fun w hs => ?_
    refine ⟨j, trivial, rfl, ?_⟩
    exact hs.pm 5 [1, 3, 4]
end Go.Proofs.YtpcechnalfaajaaDoor

/- Deferred calls; calls of a function's value; closures over an engine. -/
namespace Go.Proofs.YtpcechnalfaajaaDoor
open Go Go.Proofs
section
variable {P : Program} {ops : Array Oper} {Q : Exit → Act → World → Prop} {n : Nd} {κ : Kap} {rest : List Oper} {fr : List (Nat × Value)} {cs : List HProp}
variable {ty : TypeId} {pos : String} {af : Array Edge} {g : Option (Nat × Bool)}
/-- A call is laid by for the function's end. -/
theorem St.df {f : FuncId} {c : Operand} {fst cap : List Value} {ts : Array TypeId} (k : St P ops Q ⟨n.n, ⟨.fn (.func f) cap.toArray, fst.toArray⟩ :: n.ds⟩ κ rest fr cs)
    (hf : ev fr c = some (.func (.func f) fst.toArray cap.toArray) := by rfl) (hw : wantedF ops fr g true = true := by rfl) : St P ops Q n κ (⟨none, .defer ⟨.value c, #[], ts⟩, ty, pos, af, g⟩ :: rest) fr cs := by
  intro a w hfr hs
  simp only [wpListY_cons, wanted_of (o := ⟨none, .defer ⟨.value c, #[], ts⟩, ty, pos, af, g⟩) hfr hw, if_true]
  have hrun : (execOp a.eval ⟨none, .defer ⟨.value c, #[], ts⟩, ty, pos, af, g⟩).run P w = .ok (.defer ⟨.fn (.func f) cap.toArray, fst.toArray⟩) w := by
    have e1 : Array.map a.eval #[] = #[] := by simp
    simp only [execOp, resolve, hfr.eval hf, Deferred.ofValue, Sem.run_bind, Sem.run_pure, Result.andThen_ok, e1]
    simp
  simp only [Oper.wpY, hrun, Oper.upY, Oper.upon]
  exact k _ _ ⟨by simpa [Act.put] using hfr.size, by simp [Act.put, hfr.defers], fun d v e => hfr.at_ d v e⟩ hs
/-- A return behind one deferred call of a function: one result. -/
theorem Co.r1D {fn gn : Func} {gc : Code} {gf : FuncId} {args : List Value} {R : Ending → World → Prop} {r : ResultVar} {v : Value} {cs' : List HProp}
    (hd : Co P (bodyPost P gn fun e w' => (∃ u, e = .returned u) ∧ Sat κ w' cs') ⟨gn.ntmps, []⟩ κ gc (enumF 0 args) cs) (k : ∀ w, Sat κ w cs' → R (.returned v) w)
    (h : RetTo .ret Q (bodyPostM Fence.wide 0 P fn R .ret) ∧ fn.results = #[r] ∧ Rv P n κ fr cs' r v := by refine ⟨?_, ?_, ?_⟩; infer_instance; rfl; exact .t)
    (hn : n.ds = [⟨.fn (.func gf) args.toArray, #[]⟩] := by rfl) (hg : P.funcs[gf]? = some gn := by rfl) (hb : gn.body = some gc := by rfl) (hl : Nat.ble args.length gn.ntmps = true := by rfl) (hc : Cal P gf := by infer_instance) :
    Co P Q n κ .ret fr cs := by
  refine .ret fun a w hf hs => h.1.out a w ?_
  show LeavesInM Fence.wide 0 P fn a.tmps R a.defers .returning w
  rw [hf.defers, hn]
  refine ⟨by simp, .inr ⟨fun h => (by cases h), _, _, gf, args.toArray, rfl, ?_, fun _ _ => trivial, ?_⟩⟩
  · show (invoke (.fn (.func gf) args.toArray) #[]).run P w = _
    simp only [invoke]
    have e : (#[] ++ args.toArray : Array Value) = args.toArray := by simp
    rw [e, run_enter]
  · have hl' := Nat.le_of_ble_eq_true hl
    have hbody := hd { tmps := args.toArray ++ Array.replicate (gn.ntmps - args.toArray.size) undef, defers := [] } w ⟨by simp; omega, rfl, fun d v e => by
      obtain ⟨_, h2⟩ := enumF_look args 0 d v e
      have hlt : d < args.length := by
        rcases Nat.lt_or_ge d args.length with h' | h'
        · exact h'
        · simp [List.getElem?_eq_none h'] at h2
      simp only [Array.getElem?_append]
      simp [hlt]
      simpa [List.getElem?_eq_getElem hlt] using h2⟩ hs
    refine (callsDIn_of_wp (F := Fence.wide) (n := 0) hg hb trivial ((wpIn_wide (n := 0)).2 hbody)).mono fun e u' w' he => ?_
    obtain ⟨rfl, ⟨u, rfl⟩, hs'⟩ := he
    show LeavesInM Fence.wide 0 P fn a.tmps R [] .returning w'
    refine ⟨v, ?_, k _ hs'⟩
    have h2 := h.2.2 a _ hf hs'
    rw [results_eq, h.2.1]; simp [h2]
theorem Co.xnil {id : Nat} (k : ∀ a w, Fr n a fr → Sat κ w cs → Q (.exit id) a w) : Co P Q n κ (.exit id) fr cs := fun a w hf hs => wp_exit (k a w hf hs)
/-- A call of a function's value. -/
theorem St.clV {d : Nat} {f : FuncId} {c : Operand} {fst cap : List Value} {xs : List Operand} {ts : Array TypeId} {vs : List Value} {v : Value} {cs' : List HProp} (h : ∀ w, Sat κ w cs → Calls P f (fst ++ vs ++ cap).toArray w fun e w' => e = .returned v ∧ Sat κ w' cs')
    (k : St P ops Q n κ rest ((d, v) :: fr) cs') (hf : ev fr c = some (.func (.func f) fst.toArray cap.toArray) := by rfl) (hx : evs fr xs = some vs := by rfl) (hc : Cal P f := by infer_instance)
    (hd : Nat.blt d n.n = true := by rfl) (hw : wantedF ops fr g true = true := by rfl) : St P ops Q n κ (⟨some d, .call ⟨.value c, xs.toArray, ts⟩, ty, pos, af, g⟩ :: rest) fr cs :=
  .nn (K := fun u c => u = v ∧ c = cs') (.callV hf hx fun w hs => by
    have e : fst.toArray ++ vs.toArray ++ cap.toArray = (fst ++ vs ++ cap).toArray := by simp
    rw [e]
    exact (h w hs).mono fun _ _ ⟨e, s⟩ => ⟨v, cs', e, ⟨rfl, rfl⟩, s⟩) (fun _ _ ⟨e, e'⟩ => by rw [e, e']; exact k) hd hw
theorem St.ceV {d : Nat} {ι : Type} {f : FuncId} {c : Operand} {fst cap : List Value} {xs : List Operand} {ts : Array TypeId} {vs : List Value} {r : ι → Value} {cs' : ι → List HProp} {p : ι → Prop}
    (h : ∀ w, Sat κ w cs → Calls P f (fst ++ vs ++ cap).toArray w fun e w' => ∃ i, p i ∧ e = .returned (r i) ∧ Sat κ w' (cs' i))
    (k : ∀ i, p i → St P ops Q n κ rest ((d, r i) :: fr) (cs' i)) (hf : ev fr c = some (.func (.func f) fst.toArray cap.toArray) := by rfl) (hx : evs fr xs = some vs := by rfl) (hc : Cal P f := by infer_instance)
    (hd : Nat.blt d n.n = true := by rfl) (hw : wantedF ops fr g true = true := by rfl) : St P ops Q n κ (⟨some d, .call ⟨.value c, xs.toArray, ts⟩, ty, pos, af, g⟩ :: rest) fr cs :=
  .nn (K := fun u c => ∃ i, p i ∧ u = r i ∧ c = cs' i) (.callV hf hx fun w hs => by
    have e : fst.toArray ++ vs.toArray ++ cap.toArray = (fst ++ vs ++ cap).toArray := by simp
    rw [e]
    exact (h w hs).mono fun _ _ ⟨i, hp, e, s⟩ => ⟨r i, cs' i, e, ⟨i, hp, rfl, rfl⟩, s⟩) (fun _ _ ⟨i, hp, e, e'⟩ => by rw [e, e']; exact k i hp) hd hw
end
section
variable {P : Program} {l : List Oper} {Q : Exit → Act → World → Prop} {L : List Nat} {W : List (Nat × Nat × List Value)} {n : Nd} {κ : Kap} {fuel : Nat} {done : List Nat} {fr : List (Nat × Value)} {cs : List HProp}
variable {ty : TypeId} {pos : String} {af : Array Edge} {g : Option (Nat × Bool)}
theorem Sd.ceV {d : Nat} {ι : Type} {f : FuncId} {c : Operand} {fst cap : List Value} {xs : List Operand} {ts : Array TypeId} {vs : List Value} {r : ι → Value} {cs' : ι → List HProp} {p : ι → Prop} (i : Nat)
    (h : ∀ w, Sat κ w cs → Calls P f (fst ++ vs ++ cap).toArray w fun e w' => ∃ i, p i ∧ e = .returned (r i) ∧ Sat κ w' (cs' i))
    (kk : ∀ i', p i' → Sd P l Q L W n κ fuel (i :: done) ((d, r i') :: fr) (cs' i')) (hi : getO l i = some ⟨some d, .call ⟨.value c, xs.toArray, ts⟩, ty, pos, af, g⟩ := by rfl) (hf : ev fr c = some (.func (.func f) fst.toArray cap.toArray) := by rfl) (hx : evs fr xs = some vs := by rfl) (hc : Cal P f := by infer_instance)
    (hW : ∀ i', WOk (cs' i') W := by intro _; infer_instance) (hd : Nat.blt d n.n = true := by rfl) (hw : wantedF l.toArray fr g true = true := by rfl) (hr : Region.ready .any l.toArray (listedBy l.length done) = [i] := by kernel_rfl) : Sd P l Q L W n κ (fuel + 1) done fr cs :=
  .nn i (K := fun u c => ∃ i, p i ∧ u = r i ∧ c = cs' i) (fr' := fun v => (d, v) :: fr) hi hr hw (.callV hf hx fun w hs => by
    have e : fst.toArray ++ vs.toArray ++ cap.toArray = (fst ++ vs ++ cap).toArray := by simp
    rw [e]
    exact (h w hs).mono fun _ _ ⟨i, hp, e, s⟩ => ⟨r i, cs' i, e, ⟨i, hp, rfl, rfl⟩, s⟩) (fun _ _ hf => hf.put hd)
    (fun _ _ ⟨i', _, _, e'⟩ κ w hs _ => by rw [e'] at hs; exact (hW i').out hs) (fun _ _ ⟨i', hp, e, e'⟩ => by rw [e, e']; exact kk i' hp)
end
/-- Rows among others. -/
def Has (K R : List HProp) : Prop := ∃ A B, R = A ++ (K ++ B)
theorem Has.app {K R : List HProp} (h : Has K R) (A : List HProp) : Has K (A ++ R) := by
  obtain ⟨A', B, rfl⟩ := h
  exact ⟨A ++ A', B, by rw [List.append_assoc]⟩
theorem Has.cons {K R : List HProp} (h : Has K R) (x : HProp) : Has K (x :: R) := h.app [x]
theorem Te.ef {ι : Type} {P : Program} {f : FuncId} {args : List Value} {κ : Kap} {b : Nat} {e e' : Eng} {i : EngI} {cs : List HProp} {p : ι → Prop} {r : ι → Value} {j : ι → EngI} (F : List HProp) (h : Te P f args κ (engO b e i (F ++ cs)) p r (fun x => engO b e' (j x) (F ++ cs))) : Te P f args κ (F ++ engO b e i cs) p r (fun x => F ++ engO b e' (j x) cs) :=
  fun w hs => (h w (hs.imp fun _ hg => (eng_back F).1 hg)).mono fun _ _ ⟨x, h0, h1, h2⟩ => ⟨x, h0, h1, h2.imp fun _ hg => (eng_back F).2 hg⟩
/-- A closure that does an event: what it does; I bounds what an engine is. -/
structure DoOk (P : Program) (κ : Kap) (b : Nat) (ev : Eng.Evs) (I : Nat → Eng → Prop) (fd : FuncId) (cap : List Value) (K : List HProp) : Prop where
  cal : Cal P fd
  run : ∀ (e : Eng) (i : EngI) (k m : Nat) (R : List HProp), k < ev.n → m < 70000 → I m e → i.lb.length = e.rws.length → Has K R →
    Te P fd (.int .i64 k :: cap) κ (engO b e i R) (fun i' : EngI => i'.lb.length = (ev.do_ e k).1.rws.length) (fun _ => .int .i64 (ev.do_ e k).2) (fun i' => engO b (ev.do_ e k).1 i' R)
  pres : ∀ (e : Eng) (k m : Nat), k < ev.n → I m e → I (m + 2) (ev.do_ e k).1
/-- A closure that tells an event's flags. -/
structure FlOk (P : Program) (κ : Kap) (ev : Eng.Evs) (ff : FuncId) (cap : List Value) (K : List HProp) : Prop where
  cal : Cal P ff
  run : ∀ (b : Nat) (e : Eng) (i : EngI) (k : Nat) (R : List HProp), k < ev.n → Has K R → Tr P ff (.int .i64 k :: cap) κ (engO b e i R) (.int .i64 (ev.flags k)) (engO b e i R)
end Go.Proofs.YtpcechnalfaajaaDoor

/- engine: chain. -/
namespace Go.Proofs.YtpcechnalfaajaaDoor
open Go Go.Proofs

theorem undo_co (bad : Int) (b bw b12 b11 b5 : Nat) (x1 x2 x3 x4 x5 x6 x7 y1 y2 y3 y4 y5 y6 y7 : Value) (h : one [y1, y2, y3, y4, y5, y6, y7] = true) (κ : Kap) (cs : List HProp) :
    Co Tryd.prog (bodyPost Tryd.prog Tryd.f70 fun e w' => (∃ u, e = .returned u) ∧ Sat κ w' (pts b (92, if 0 ≤ bad then [y1, y2, y3, y4, y5, y6, y7] else [x1, x2, x3, x4, x5, x6, x7]) :: pts bw (92, [y1, y2, y3, y4, y5, y6, y7]) :: cs)) ⟨(Tryd.f70).ntmps, []⟩ κ ((Tryd.f70).body.getD .skip)
      (enumF 0 [.pointer (some ⟨b12, 0, none⟩), .pointer (some ⟨b11, 0, none⟩), .pointer (some ⟨b5, 0, none⟩)])
      (pts b12 (3, [.int .i64 bad]) :: pts b11 (27, [ptrV bw]) :: pts b5 (27, [ptrV b]) :: pts b (92, [x1, x2, x3, x4, x5, x6, x7]) :: pts bw (92, [y1, y2, y3, y4, y5, y6, y7]) :: cs) := by
  refine .seq ?_
  refine .reg ?_
  refine .ld ?_
  refine .ge ?_
  refine .go ?_
  refine .cond rfl (fun hc => ?_) (fun hc => ?_)
  · have hc := of_decide_eq_true hc
    refine .regD [(b12, 0, [.int .i64 bad]), (b11, 0, [ptrV bw]), (b5, 0, [ptrV b]), (bw, 0, [y1, y2, y3, y4, y5, y6, y7])] [] ?_
    refine .ld 0 ?_
    refine .ld 1 ?_
    refine .nc 2 ?_
    refine .ld 3 (v := .agg #[y1, y2, y3, y4, y5, y6, y7]) ?_
    refine .nc 4 ?_
    refine .stw 5 (v := .agg #[y1, y2, y3, y4, y5, y6, y7]) (r := [x1, x2, x3, x4, x5, x6, x7]) ?_ (h := ⟨rfl, rfl, inferInstance, inferInstance, ⟨rfl, rfl⟩, h, rfl⟩)
    refine .e0 fun w hs => ?_
    rw [if_pos (by omega)]
    exact ⟨⟨_, rfl⟩, hs.pm 3 []⟩
  · have hc := of_decide_eq_false hc
    refine .e0 fun w hs => ?_
    rw [if_neg (by omega)]
    exact ⟨⟨_, rfl⟩, hs.pm 3 []⟩
def encRes (x : Int × Int) : List Value := [.int .i64 x.1, .int .i64 x.2]
theorem sepL_cut {κ : Kap} (F : List HProp) : ∀ (A : List HProp) {B : List HProp} {g : Hp}, sepL κ (F ++ (A ++ B)) g → sepL κ (F ++ B) g := by
  intro A
  induction A with
  | nil => intro B g h; exact h
  | cons x A ih => intro B g h; exact ih (sepL_mid F h)
theorem eng_tail {κ : Kap} {g : Hp} {b : Nat} {e : Eng} {i : EngI} {Y Y' : List HProp} (k : ∀ g, sepL κ Y g → sepL κ Y' g) (h : sepL κ (engO b e i Y) g) : sepL κ (engO b e i Y') g :=
  sepL_tails (fun _ h => sepL_tails k (rowsP e.rws i.lb) h) [_, _, _, _, _, _] h
abbrev engF (e : Eng) (i : EngI) : List Value := [.slice i.pa e.acc.length i.ca, .slice i.pt e.trs.length i.ct, .slice i.pr i.lb.length i.cr, ptrV i.bA, ptrV i.bI, .int .i64 e.time, .int .i64 e.now]
/-- A copy's rows but for the first one. -/
def wasG (e : Eng) (i : EngI) : List HProp :=
  sl 46 (.slice i.pa e.acc.length i.ca) (37, e.acc.flatMap encA) :: sl 16 (.slice i.pt e.trs.length i.ct) (43, e.trs.flatMap encT) :: sl 1 (.slice i.pr i.lb.length i.cr) (72, i.lb.map ptrV) ::
  ixB i.bA (idxOf e.ids) :: ixB i.bI (idxOf e.tids) :: rowsP e.rws i.lb
theorem was_out {κ : Kap} {g : Hp} {b bw : Nat} {e : Eng} {i iw : EngI} {x : HProp} {R : List HProp} (h : sepL κ (engO bw e iw (engO b e i (x :: R))) g) : sepL κ (x :: pts bw (92, engF e iw) :: engO b e i (wasG e iw ++ R)) g := by
  have h1 : sepL κ ((pts bw (92, engF e iw) :: wasG e iw) ++ engO b e i (x :: R)) g := h
  have h2 := (eng_back (pts bw (92, engF e iw) :: wasG e iw)).1 h1
  have h3 := eng_tail (fun g h => sepL_out (pts bw (92, engF e iw) :: wasG e iw) h) h2
  exact (eng_back [x, pts bw (92, engF e iw)]).2 h3
/-- What was, is again. -/
theorem was_in {κ : Kap} {g : Hp} {b : Nat} {e : Eng} {iw : EngI} {R X : List HProp} (h : sepL κ (pts b (92, engF e iw) :: (X ++ (wasG e iw ++ R))) g) : sepL κ (engO b e iw R) g :=
  sepL_cut [pts b (92, engF e iw)] X h
theorem was_in5 {κ : Kap} {g : Hp} {b : Nat} {e : Eng} {iw : EngI} {R A : List HProp} {x1 x2 x3 x4 x5 : HProp} (h : sepL κ (pts b (92, engF e iw) :: x1 :: x2 :: x3 :: x4 :: x5 :: (A ++ (wasG e iw ++ R))) g) : sepL κ (engO b e iw R) g :=
  was_in (X := [x1, x2, x3, x4, x5] ++ A) h
/-- How the going over a chain's events stands. -/
structure ChS where
  j : Nat
  E : Eng
  i : EngI
  o : Option (Nat × Int)
def ChS.bad (x : ChS) : Int := match x.o with
  | none => -1
  | some p => p.1
def ChS.code (x : ChS) : Int := match x.o with
  | none => 0
  | some p => p.2
structure ChOk (ev : Eng.Evs) (I : Nat → Eng → Prop) (m0 m lo : Nat) (e : Eng) (x : ChS) : Prop where
  j : x.j ≤ m
  i : x.i.lb.length = x.E.rws.length
  n : x.o = none → Eng.run ev m lo e = Eng.run ev (m - x.j) (lo + x.j) x.E ∧ I (m0 + 2 * x.j) x.E
  s : ∀ p, x.o = some p → Eng.run ev m lo e = (x.E, some p) ∧ lo + x.j = p.1 + 1 ∧ p.2 ≠ 0 ∧ lo ≤ p.1
theorem chain_some {ev : Eng.Evs} {lo hi m : Nat} {e E : Eng} {p : Nat × Int} (hm : min (hi + 1) ev.n - lo = m) (hr : Eng.run ev m lo e = (E, some p)) : Eng.chain ev lo hi e = (e, Eng.results lo m p.1 p.2) := by
  unfold Eng.chain
  rw [hm]
  simp only
  rw [hr]
theorem chain_none {ev : Eng.Evs} {lo hi m : Nat} {e E : Eng} (hm : min (hi + 1) ev.n - lo = m) (hr : Eng.run ev m lo e = (E, none)) : Eng.chain ev lo hi e = if hi = ev.n then (e, Eng.results lo m (ev.n - 1) 2) else (E, []) := by
  unfold Eng.chain
  rw [hm]
  simp only
  rw [hr]
set_option maxHeartbeats 2000000 in
theorem chain_tr {κ : Kap} {b : Nat} {ev : Eng.Evs} {I : Nat → Eng → Prop} {fd : FuncId} {cap : List Value} {K : List HProp} (hdo : DoOk Tryd.prog κ b ev I fd cap K) (hW : ∀ m e, I m e → EngW m e) (lo hi : Nat) (hlo : lo < ev.n) (hlh : lo ≤ hi) (hhi : hi ≤ ev.n) (hn : ev.n < 1000)
    (e : Eng) (m0 : Nat) (hm0 : m0 + 4000 < 70000) (hI : I m0 e) (i : EngI) (hi0 : i.lb.length = e.rws.length) (R : List HProp) (hK : Has K R) :
    Te Tryd.prog 59 [.pointer (some ⟨b, 0, none⟩), .int .i64 lo, .int .i64 hi, .int .i64 ev.n, .func (.func fd) #[] cap.toArray] κ (engO b e i R) (fun x : EngI × Option Addr × Nat => x.1.lb.length = (Eng.chain ev lo hi e).1.rws.length)
      (fun x => .slice x.2.1 (Eng.chain ev lo hi e).2.length x.2.2) (fun x => sl 2 (.slice x.2.1 (Eng.chain ev lo hi e).2.length x.2.2) (45, (Eng.chain ev lo hi e).2.flatMap encRes) :: engO b (Eng.chain ev lo hi e).1 x.1 R) := by
  refine .enterM Tryd.func59 rfl rfl ?_
  have hcal := hdo.cal
  refine .seq ?_
  refine .reg ?_
  refine .bx fun b5 => ?_
  refine .as ?_
  refine .go ?_
  refine .seq ?_
  refine .reg ?_
  refine .ld ?_
  refine .ce (ι := Nat × EngI) (p := fun q => q.2.lb.length = e.rws.length) (r := fun q => .pointer (some ⟨q.1, 0, none⟩)) (cs' := fun q => pts b5 (27, [ptrV b]) :: pts q.1 (92, engF e q.2) :: engO b e i (wasG e q.2 ++ R))
    (fun w hs => (ecopy_tr b e i hi0 (by omega) (hW _ _ hI) κ (pts b5 (27, [ptrV b]) :: R) w (hs.imp fun _ hg => (eng_back [_]).1 hg)).mono fun _ _ ⟨q, h0, h1, h2⟩ => ⟨q, h0, h1, h2.imp fun _ hg => was_out hg⟩) (fun q hq => ?_)
  generalize hG : wasG e q.2 = G at *
  refine .al fun b11 => ?_
  refine .stw ?_
  refine .go ?_
  refine .seq ?_
  refine .reg ?_
  refine .al fun b12 => ?_
  refine .stw ?_
  refine .as ?_
  refine .go ?_
  refine .seq ?_
  refine .reg ?_
  refine .mf ?_
  refine .df ?_
  refine .go ?_
  generalize hm : min (hi + 1) ev.n - lo = m at *
  have hrun : ∀ k i e, Eng.run ev (k + 1) i e = if (ev.do_ e i).2 = 0 then Eng.run ev k (i + 1) (ev.do_ e i).1 else ((ev.do_ e i).1, some (i, (ev.do_ e i).2)) := fun _ _ _ => rfl
  have hm1 : lo + m ≤ ev.n ∧ lo + m ≤ hi + 1 ∧ (lo + m = ev.n ∨ lo + m = hi + 1) := by omega
  refine .jn (ι := ChS) (fun x => [(0, .pointer (some ⟨b, 0, none⟩)), (1, .int .i64 lo), (2, .int .i64 hi), (3, .int .i64 ev.n), (10, .slice none 0 0), (12, .pointer (some ⟨b12, 0, none⟩)), (13, .int .i64 x.code)]) (fun x => pts b12 (3, [.int .i64 x.bad]) :: pts b11 (27, [ptrV q.1]) :: pts b5 (27, [ptrV b]) :: pts q.1 (92, engF e q.2) :: engO b x.E x.i (G ++ R))
    (fun x => x.i.lb.length = x.E.rws.length ∧ Eng.run ev m lo e = (x.E, x.o) ∧ ∀ p, x.o = some p → lo ≤ p.1 ∧ p.1 < ev.n ∧ p.2 ≠ 0) ?_ fun x hx => ?_
  · refine .seq ?_
    refine .reg ?_
    refine .mv ?_
    refine .as ?_
    refine .go ?_
    refine .block ?_
    refine .lp (fun x : ChS => [(0, .pointer (some ⟨b, 0, none⟩)), (1, .int .i64 lo), (2, .int .i64 hi), (3, .int .i64 ev.n), (10, .slice none 0 0), (12, .pointer (some ⟨b12, 0, none⟩)), (4, .func (.func fd) #[] cap.toArray), (13, .int .i64 x.code), (14, .int .i64 ((lo + x.j : Nat) : Int))]) (fun x => pts b12 (3, [.int .i64 x.bad]) :: pts b11 (27, [ptrV q.1]) :: pts b5 (27, [ptrV b]) :: pts q.1 (92, engF e q.2) :: engO b x.E x.i (G ++ R)) (ChOk ev I m0 m lo e) (fun x => m - x.j + (if x.o.isNone then 1 else 0)) ⟨0, e, i, none⟩ ⟨Nat.zero_le _, hi0, fun _ => ⟨rfl, hI⟩, fun _ h => by cases h⟩ (by repeat (first | exact trivial | refine ⟨rfl, ?_⟩)) rfl fun x hx => ?_
    obtain ⟨j, E, iE, o⟩ := x
    obtain ⟨hj, hiE, hon, hos⟩ := hx
    simp only at hj hiE hon hos
    generalize hbad : ChS.bad ⟨j, E, iE, o⟩ = bad
    generalize hcode : ChS.code ⟨j, E, iE, o⟩ = code
    have hb0 : (o = none ∧ bad = -1 ∧ code = 0) ∨ ∃ p, o = some p ∧ bad = p.1 ∧ code = p.2 := by
      cases o with
      | none => exact .inl ⟨rfl, hbad.symm, hcode.symm⟩
      | some p => exact .inr ⟨p, rfl, hbad.symm, hcode.symm⟩
    refine .sat (cs' := pts b12 (3, [.int .i64 bad]) :: pts b11 (27, [ptrV q.1]) :: pts b5 (27, [ptrV b]) :: pts q.1 (92, engF e q.2) :: engO b E iE (G ++ R)) (fun w hs => hs) ?_
    refine .seq ?_
    refine .jn (ι := Unit) (fun _ => [(0, .pointer (some ⟨b, 0, none⟩)), (1, .int .i64 lo), (2, .int .i64 hi), (3, .int .i64 ev.n), (10, .slice none 0 0), (12, .pointer (some ⟨b12, 0, none⟩)), (4, .func (.func fd) #[] cap.toArray), (13, .int .i64 code), (14, .int .i64 ((lo + j : Nat) : Int)), (33, .bool (decide (o = none ∧ j < m)))]) (fun _ => pts b12 (3, [.int .i64 bad]) :: pts b11 (27, [ptrV q.1]) :: pts b5 (27, [ptrV b]) :: pts q.1 (92, engF e q.2) :: engO b E iE (G ++ R)) (fun _ => True) ?_ fun _ _ => ?_
    · refine .reg ?_
      refine .mv ?_
      refine .mv ?_
      refine .le ?_
      refine .mv ?_
      by_cases h1 : ((lo + j : Nat) : Int) ≤ hi
      · rw [decide_eq_true h1]
        refine .mv ?_
        refine .mv ?_
        refine .lt ?_
        first | refine .pt ?_ | refine .pf ?_
        refine .mv ?_
        by_cases h2 : ((lo + j : Nat) : Int) < ev.n
        · rw [decide_eq_true h2]
          refine .ld ?_
          refine .lt ?_
          first | refine .pt ?_ | refine .pf ?_
          rw [show decide (o = none ∧ j < m) = decide (bad < 0) from by
            rw [decide_eq_decide]
            rcases hb0 with ⟨h3, h4, _⟩ | ⟨p, h3, h4, _⟩
            · exact ⟨fun _ => by omega, fun _ => ⟨h3, by omega⟩⟩
            · exact ⟨fun h => (by rw [h3] at h; cases h.1), fun h => by omega⟩]
          exact .nil fun aa w hf hs => ⟨(), trivial, hf.to (by repeat (first | exact trivial | refine ⟨rfl, ?_⟩)), hs⟩
        · rw [decide_eq_false h2, decide_eq_false (p := o = none ∧ j < m) (by omega)]
          repeat refine .skip ?_
          first | refine .pt ?_ | refine .pf ?_
          exact .nil fun aa w hf hs => ⟨(), trivial, hf.to (by repeat (first | exact trivial | refine ⟨rfl, ?_⟩)), hs⟩
      · rw [decide_eq_false h1, decide_eq_false (p := o = none ∧ j < m) (by omega)]
        repeat refine .skip ?_
        first | refine .pt ?_ | refine .pf ?_
        refine .mv ?_
        repeat refine .skip ?_
        first | refine .pt ?_ | refine .pf ?_
        exact .nil fun aa w hf hs => ⟨(), trivial, hf.to (by repeat (first | exact trivial | refine ⟨rfl, ?_⟩)), hs⟩
    refine .cond rfl (fun hc => ?_) (fun hc => ?_)
    · obtain ⟨rfl, hjm⟩ := of_decide_eq_true hc
      obtain ⟨hr, hIE⟩ := hon rfl
      have hcode0 : code = 0 := hcode.symm
      have hbad0 : bad = -1 := hbad.symm
      subst hcode0 hbad0
      have hkn : lo + j < ev.n := by omega
      have hcall := Te.ef [pts b12 (3, [.int .i64 (-1)]), pts b11 (27, [ptrV q.1]), pts b5 (27, [ptrV b]), pts q.1 (92, engF e q.2)] (cs := G ++ R) (hdo.run E iE (lo + j) (m0 + 2 * j) ([pts b12 (3, [.int .i64 (-1)]), pts b11 (27, [ptrV q.1]), pts b5 (27, [ptrV b]), pts q.1 (92, engF e q.2)] ++ (G ++ R)) hkn (by omega) hIE hiE ((hK.app G).app [pts b12 (3, [.int .i64 (-1)]), pts b11 (27, [ptrV q.1]), pts b5 (27, [ptrV b]), pts q.1 (92, engF e q.2)]))
      have hpres := hdo.pres E (lo + j) (m0 + 2 * j) hkn hIE
      have hr2 := hrun (m - j - 1) (lo + j) E
      rw [show m - j - 1 + 1 = m - j by omega] at hr2
      rw [hr2] at hr
      generalize ev.do_ E (lo + j) = r at *
      refine .go ?_
      refine .seq ?_
      refine .block ?_
      refine .seq ?_
      refine .reg ?_
      refine .mv ?_
      refine .mv ?_
      refine .ceV (fst := []) (cap := cap) (vs := [.int .i64 ((lo + j : Nat) : Int)]) hcall (fun i' hi' => ?_)
      refine .sat (cs' := pts b12 (3, [.int .i64 (-1)]) :: pts b11 (27, [ptrV q.1]) :: pts b5 (27, [ptrV b]) :: pts q.1 (92, engF e q.2) :: engO b r.1 i' (G ++ R)) (fun w hs => hs) ?_
      refine .as ?_
      refine .go ?_
      refine .seq ?_
      refine .reg ?_
      refine .mv ?_
      refine .ne ?_
      refine .go ?_
      refine .cond rfl (fun hc => ?_) (fun hc => ?_)
      · have hc := of_decide_eq_true hc
        refine .reg ?_
        refine .mv ?_
        refine .st ?_
        refine .go ?_
        refine .reg ?_
        refine .mv ?_
        refine .ad ?_
        refine .as ?_
        refine .nil fun aa w hf hs => ⟨⟨j + 1, r.1, i', some (lo + j, r.2)⟩, ⟨by show j + 1 ≤ m; omega, hi', fun h => (by cases h), fun p h => ?_⟩, by show m - (j + 1) + 0 < m - j + 1; omega, hf.to (by repeat (first | exact trivial | refine ⟨rfl, ?_⟩)), hs⟩
        cases h
        exact ⟨by rw [hr, if_neg hc], by show lo + (j + 1) = lo + j + 1; omega, hc, by show lo ≤ lo + j; omega⟩
      · have hc := of_decide_eq_false hc
        have hc0 : r.2 = 0 := by omega
        rw [hc0]
        refine .go ?_
        refine .reg ?_
        refine .mv ?_
        refine .ad ?_
        refine .as ?_
        refine .nil fun aa w hf hs => ⟨⟨j + 1, r.1, i', none⟩, ⟨by show j + 1 ≤ m; omega, hi', fun _ => ⟨by rw [hr, if_pos hc0]; rfl, hpres⟩, fun p h => by cases h⟩, by show m - (j + 1) + 1 < m - j + 1; omega, hf.to (by repeat (first | exact trivial | refine ⟨rfl, ?_⟩)), hs⟩
    · have hc := of_decide_eq_false hc
      refine .xnil fun aa w hf hs => ⟨⟨j, E, iE, o⟩, ⟨hiE, ?_, fun p hp => ?_⟩, by rw [hcode]; exact hf.to (by repeat (first | exact trivial | refine ⟨rfl, ?_⟩)), by rw [hbad]; exact hs⟩
      · cases o with
        | none =>
          have hj0 : m - j = 0 := by
            apply Classical.byContradiction
            intro h
            exact hc ⟨rfl, by omega⟩
          have := (hon rfl).1
          rw [hj0] at this
          exact this
        | some p => exact (hos p rfl).1
      · obtain ⟨_, h2, h3, h4⟩ := hos p hp
        exact ⟨h4, by omega, h3⟩
  obtain ⟨j, E, iE, o⟩ := x
  obtain ⟨hiE, hr, hop⟩ := hx
  simp only at hiE hr hop
  refine .jn (ι := Option (Nat × Int)) (fun f => [(0, .pointer (some ⟨b, 0, none⟩)), (1, .int .i64 lo), (2, .int .i64 hi), (3, .int .i64 ev.n), (10, .slice none 0 0), (12, .pointer (some ⟨b12, 0, none⟩)), (13, .int .i64 (ChS.code ⟨j, E, iE, f⟩))]) (fun f => pts b12 (3, [.int .i64 (ChS.bad ⟨j, E, iE, f⟩)]) :: pts b11 (27, [ptrV q.1]) :: pts b5 (27, [ptrV b]) :: pts q.1 (92, engF e q.2) :: engO b E iE (G ++ R))
    (fun f => (∀ p, f = some p → Eng.chain ev lo hi e = (e, Eng.results lo m p.1 p.2)) ∧ (f = none → Eng.chain ev lo hi e = (E, []))) ?_ fun f hf => ?_
  · cases o with
    | some p =>
      have hch := chain_some hm hr
      refine .sat (cs' := pts b12 (3, [.int .i64 (p.1 : Nat)]) :: pts b11 (27, [ptrV q.1]) :: pts b5 (27, [ptrV b]) :: pts q.1 (92, engF e q.2) :: engO b E iE (G ++ R)) (fun w hs => hs) ?_
      refine .seq ?_
      refine .reg ?_
      refine .ld ?_
      refine .lt ?_
      refine .mv ?_
      rw [decide_eq_false (p := ((p.1 : Nat) : Int) < 0) (by omega)]
      repeat refine .skip ?_
      first | refine .pt ?_ | refine .pf ?_
      refine .go ?_
      refine .cond rfl (fun hc => by cases hc) (fun hc => ?_)
      exact .skip fun aa w hf hs => ⟨some p, ⟨fun _ h => by cases h; exact hch, fun h => by cases h⟩, hf.to (by repeat (first | exact trivial | refine ⟨rfl, ?_⟩)), hs⟩
    | none =>
      have hch := chain_none hm hr
      refine .sat (cs' := pts b12 (3, [.int .i64 (-1)]) :: pts b11 (27, [ptrV q.1]) :: pts b5 (27, [ptrV b]) :: pts q.1 (92, engF e q.2) :: engO b E iE (G ++ R)) (fun w hs => hs) ?_
      refine .seq ?_
      refine .reg ?_
      refine .ld ?_
      refine .lt ?_
      refine .mv ?_
      refine .mv ?_
      refine .mv ?_
      refine .eq ?_
      first | refine .pt ?_ | refine .pf ?_
      refine .go ?_
      refine .cond rfl (fun hc => ?_) (fun hc => ?_)
      · have hc : hi = ev.n := by have := of_decide_eq_true hc; omega
        rw [if_pos hc] at hch
        refine .reg ?_
        refine .mv ?_
        refine .sb ?_
        refine .st ?_
        refine .as ?_
        refine .nil fun aa w hf hs => ⟨some (ev.n - 1, 2), ⟨fun _ h => by cases h; exact hch, fun h => by cases h⟩, hf.to (by repeat (first | exact trivial | refine ⟨rfl, ?_⟩)), ?_⟩
        show Sat κ w (pts b12 (3, [.int .i64 ((ev.n - 1 : Nat) : Int)]) :: pts b11 (27, [ptrV q.1]) :: pts b5 (27, [ptrV b]) :: pts q.1 (92, engF e q.2) :: engO b E iE (G ++ R))
        rw [show ((ev.n - 1 : Nat) : Int) = (ev.n : Int) - 1 by omega]
        exact hs
      · have hc : ¬ hi = ev.n := by have := of_decide_eq_false hc; omega
        rw [if_neg hc] at hch
        exact .skip fun aa w hf hs => ⟨none, ⟨fun _ h => (by cases h), fun _ => hch⟩, hf.to (by repeat (first | exact trivial | refine ⟨rfl, ?_⟩)), hs⟩
  have hsw : ∀ (x : Int) w, Sat κ w (pts b12 (3, [.int .i64 x]) :: pts b11 (27, [ptrV q.1]) :: pts b5 (27, [ptrV b]) :: pts q.1 (92, engF e q.2) :: engO b E iE (G ++ R)) → Sat κ w (pts b12 (3, [.int .i64 x]) :: pts b11 (27, [ptrV q.1]) :: pts b5 (27, [ptrV b]) :: pts b (92, engF E iE) :: pts q.1 (92, engF e q.2) ::
    (sl 46 (.slice iE.pa E.acc.length iE.ca) (37, E.acc.flatMap encA) :: sl 16 (.slice iE.pt E.trs.length iE.ct) (43, E.trs.flatMap encT) :: sl 1 (.slice iE.pr iE.lb.length iE.cr) (72, iE.lb.map ptrV) ::
    ixB iE.bA (idxOf E.ids) :: ixB iE.bI (idxOf E.tids) :: (rowsP E.rws iE.lb ++ (G ++ R)))) := fun x w hs => hs.pm 5 [0, 1, 2, 4, 3]
  cases f with
  | none =>
    have hch := hf.2 rfl
    rw [hch]
    refine .sat (cs' := pts b12 (3, [.int .i64 (-1)]) :: pts b11 (27, [ptrV q.1]) :: pts b5 (27, [ptrV b]) :: pts q.1 (92, engF e q.2) :: engO b E iE (G ++ R)) (fun w hs => hs) ?_
    refine .seq ?_
    refine .seq ?_
    refine .reg ?_
    refine .ld ?_
    refine .lt ?_
    refine .go ?_
    refine .cond rfl (fun hc => ?_) (fun hc => by cases hc)
    refine .seq ?_
    refine .reg ?_
    refine .as ?_
    refine .go ?_
    refine .sat (hsw (-1)) ?_
    refine .r1D (undo_co (-1) b q.1 b12 b11 b5 _ _ _ _ _ _ _ _ _ _ _ _ _ _ rfl κ _) (fun w hs => ?_)
    rw [if_neg (by decide)] at hs
    refine ⟨(iE, none, 0), hiE, rfl, ?_⟩
    refine Sat.nilS ?_ 2 45
    have h1 := hs.pm 2 [0]
    exact h1.imp fun _ hg => eng_tail (fun g h => sepL_cut [] G h) hg
  | some p =>
    have hch := hf.1 p rfl
    rw [hch]
    obtain ⟨B, C⟩ := p
    refine .sat (cs' := pts b12 (3, [.int .i64 (B : Nat)]) :: pts b11 (27, [ptrV q.1]) :: pts b5 (27, [ptrV b]) :: pts q.1 (92, engF e q.2) :: engO b E iE (G ++ R)) (fun w hs => hs) ?_
    have hRl : (Eng.results lo m B C).length = m := by unfold Eng.results; simp
    have hRk : ∀ k, (h : k < (Eng.results lo m B C).length) → (Eng.results lo m B C)[k] = (((lo + k : Nat) : Int), if lo + k = B then C else 1) := fun k h => by unfold Eng.results; simp
    generalize Eng.results lo m B C = RS at *
    refine .seq ?_
    refine .seq ?_
    refine .reg ?_
    refine .ld ?_
    refine .lt ?_
    refine .go ?_
    refine .cond rfl (fun hc => by have := of_decide_eq_true hc; omega) (fun hc => ?_)
    refine .go ?_
    refine .seq ?_
    refine .reg ?_
    refine .as ?_
    refine .go ?_
    refine .seq ?_
    refine .seq ?_
    refine .reg ?_
    refine .mv ?_
    refine .as ?_
    refine .go ?_
    refine .block ?_
    refine .sat (fun w hs => hs.nilS 2 45) ?_
    refine .lp (fun x : Nat × Option Addr × Nat => [(0, .pointer (some ⟨b, 0, none⟩)), (1, .int .i64 lo), (2, .int .i64 hi), (3, .int .i64 ev.n), (10, .slice none 0 0), (12, .pointer (some ⟨b12, 0, none⟩)), (13, .int .i64 C), (15, .slice x.2.1 x.1 x.2.2), (16, .int .i64 ((lo + x.1 : Nat) : Int))]) (fun x => sl 2 (.slice x.2.1 x.1 x.2.2) (45, (RS.take x.1).flatMap encRes) :: pts b12 (3, [.int .i64 (B : Nat)]) :: pts b11 (27, [ptrV q.1]) :: pts b5 (27, [ptrV b]) :: pts q.1 (92, engF e q.2) :: engO b E iE (G ++ R)) (fun x => x.1 ≤ m) (fun x => m - x.1) (0, none, 0) (by exact Nat.zero_le _) (by repeat (first | exact trivial | refine ⟨rfl, ?_⟩)) rfl fun x hx => ?_
    obtain ⟨k, pp, cc⟩ := x
    have hx : k ≤ m := hx
    refine .seq ?_
    refine .jn (ι := Unit) (fun _ => [(0, .pointer (some ⟨b, 0, none⟩)), (1, .int .i64 lo), (2, .int .i64 hi), (3, .int .i64 ev.n), (10, .slice none 0 0), (12, .pointer (some ⟨b12, 0, none⟩)), (13, .int .i64 C), (15, .slice pp k cc), (16, .int .i64 ((lo + k : Nat) : Int)), (61, .bool (decide (k < m)))]) (fun _ => sl 2 (.slice pp k cc) (45, (RS.take k).flatMap encRes) :: pts b12 (3, [.int .i64 (B : Nat)]) :: pts b11 (27, [ptrV q.1]) :: pts b5 (27, [ptrV b]) :: pts q.1 (92, engF e q.2) :: engO b E iE (G ++ R)) (fun _ => True) ?_ fun _ _ => ?_
    · refine .reg ?_
      refine .mv ?_
      refine .mv ?_
      refine .le ?_
      refine .mv ?_
      by_cases h1 : ((lo + k : Nat) : Int) ≤ hi
      · rw [decide_eq_true h1]
        refine .mv ?_
        refine .mv ?_
        refine .lt ?_
        first | refine .pt ?_ | refine .pf ?_
        rw [show decide (k < m) = decide (((lo + k : Nat) : Int) < ev.n) from by rw [decide_eq_decide]; omega]
        exact .nil fun aa w hf hs => ⟨(), trivial, hf.to (by repeat (first | exact trivial | refine ⟨rfl, ?_⟩)), hs⟩
      · rw [decide_eq_false h1, decide_eq_false (p := k < m) (by omega)]
        repeat refine .skip ?_
        first | refine .pt ?_ | refine .pf ?_
        exact .nil fun aa w hf hs => ⟨(), trivial, hf.to (by repeat (first | exact trivial | refine ⟨rfl, ?_⟩)), hs⟩
    refine .cond rfl (fun hc => ?_) (fun hc => ?_)
    · have hkm := of_decide_eq_true hc
      have hR := hRk k (by omega)
      have hts : RS.take (k + 1) = RS.take k ++ [RS[k]'(by omega)] := List.take_succ_eq_append_getElem (by omega)
      rw [hR] at hts
      refine .go ?_
      refine .seq ?_
      refine .block ?_
      refine .seq ?_
      refine .reg ?_
      refine .mv ?_
      refine .bd ?_
      refine .al fun b17 => ?_
      refine .stw (v := .agg (encRes (((lo + k : Nat) : Int), 1)).toArray) ?_
      rw [vc_agg]
      refine .go ?_
      refine .jn (ι := Unit) (fun _ => [(0, .pointer (some ⟨b, 0, none⟩)), (1, .int .i64 lo), (2, .int .i64 hi), (3, .int .i64 ev.n), (10, .slice none 0 0), (12, .pointer (some ⟨b12, 0, none⟩)), (13, .int .i64 C), (15, .slice pp k cc), (16, .int .i64 ((lo + k : Nat) : Int)), (17, .pointer (some ⟨b17, 0, none⟩))]) (fun _ => pts b17 (45, encRes (((lo + k : Nat) : Int), if lo + k = B then C else 1)) :: sl 2 (.slice pp k cc) (45, (RS.take k).flatMap encRes) :: pts b12 (3, [.int .i64 (B : Nat)]) :: pts b11 (27, [ptrV q.1]) :: pts b5 (27, [ptrV b]) :: pts q.1 (92, engF e q.2) :: engO b E iE (G ++ R)) (fun _ => True) ?_ fun _ _ => ?_
      · refine .seq ?_
        refine .reg ?_
        refine .mv ?_
        refine .ld ?_
        refine .eq ?_
        refine .go ?_
        refine .cond rfl (fun hc => ?_) (fun hc => ?_)
        · have hc : lo + k = B := by have := of_decide_eq_true hc; omega
          rw [if_pos hc]
          refine .reg ?_
          refine .mv ?_
          refine .fa ?_
          refine .sx (r' := encRes (((lo + k : Nat) : Int), C)) rfl ?_
          exact .nil fun aa w hf hs => ⟨(), trivial, hf.to (by repeat (first | exact trivial | refine ⟨rfl, ?_⟩)), hs⟩
        · have hc : ¬ lo + k = B := by have := of_decide_eq_false hc; omega
          rw [if_neg hc]
          exact .skip fun aa w hf hs => ⟨(), trivial, hf.to (by repeat (first | exact trivial | refine ⟨rfl, ?_⟩)), hs⟩
      · generalize (if lo + k = B then C else 1) = cd at *
        refine .reg ?_
        refine .mv ?_
        refine .ld (v := .agg (encRes (((lo + k : Nat) : Int), cd)).toArray) ?_
        refine .bs1 (v := .agg (encRes (((lo + k : Nat) : Int), cd)).toArray) (m := 2) (fun b73 => ?_) rfl
        rw [vc_agg]
        refine .ap (src := encRes (((lo + k : Nat) : Int), cd)) (k := 1) (m := 2) (.inr ⟨b73, 0, rfl, .ofRd (h := .head)⟩) (fun p74 c74 => ?_) rfl rfl
        refine .as ?_
        refine .go ?_
        refine .reg ?_
        refine .mv ?_
        refine .ad ?_
        refine .as ?_
        refine .nil fun aa w hf hs => ⟨(k + 1, p74, c74), by show k + 1 ≤ m; omega, by show m - (k + 1) < m - k; omega, hf.to (by repeat (first | exact trivial | refine ⟨rfl, ?_⟩)), ?_⟩
        show Sat κ w (sl 2 (.slice p74 (k + 1) c74) (45, (RS.take (k + 1)).flatMap encRes) :: _)
        rw [hts, List.flatMap_append, List.flatMap_cons, List.flatMap_nil, List.append_nil]
        exact hs.pm 3 [2]
    · have hkm : k = m := by have := of_decide_eq_false hc; omega
      subst hkm
      rw [List.take_of_length_le (by omega)]
      refine .xgo ?_
      refine .seq ?_
      refine .reg ?_
      refine .mv ?_
      refine .as ?_
      refine .go ?_
      rw [hRl]
      refine .sat (cs' := pts b12 (3, [.int .i64 (B : Nat)]) :: pts b11 (27, [ptrV q.1]) :: pts b5 (27, [ptrV b]) :: pts b (92, engF E iE) :: pts q.1 (92, engF e q.2) :: sl 2 (.slice pp k cc) (45, RS.flatMap encRes) ::
        (sl 46 (.slice iE.pa E.acc.length iE.ca) (37, E.acc.flatMap encA) :: sl 16 (.slice iE.pt E.trs.length iE.ct) (43, E.trs.flatMap encT) :: sl 1 (.slice iE.pr iE.lb.length iE.cr) (72, iE.lb.map ptrV) ::
        ixB iE.bA (idxOf E.ids) :: ixB iE.bI (idxOf E.tids) :: (rowsP E.rws iE.lb ++ (G ++ R)))) (fun w hs => hs.pm 6 [1, 2, 3, 5, 4, 0]) ?_
      refine .r1D (undo_co (B : Nat) b q.1 b12 b11 b5 _ _ _ _ _ _ _ _ _ _ _ _ _ _ rfl κ _) (fun w hs => ?_)
      rw [if_pos (Int.natCast_nonneg _)] at hs
      refine ⟨(q.2, pp, cc), hq, rfl, ?_⟩
      have h1 := hs.pm 3 [2, 0]
      rw [← hG] at h1
      exact h1.imp fun _ hg => sepL_tails (F := [_]) (fun g h => was_in5 (A := rowsP E.rws iE.lb) h) hg
end Go.Proofs.YtpcechnalfaajaaDoor

/- engine: batch. -/
namespace Go.Proofs.YtpcechnalfaajaaDoor
open Go Go.Proofs

theorem chain_len (ev : Eng.Evs) (lo hi : Nat) (e : Eng) : (Eng.chain ev lo hi e).2.length ≤ hi + 1 - lo := by
  have hm := rfl (a := min (hi + 1) ev.n - lo)
  cases h : Eng.run ev (min (hi + 1) ev.n - lo) lo e with
  | mk E o =>
    cases o with
    | some p => rw [chain_some rfl h]; unfold Eng.results; simp; omega
    | none =>
      rw [chain_none rfl h]
      split
      · unfold Eng.results; simp; omega
      · simp
theorem run_I {ev : Eng.Evs} {I : Nat → Eng → Prop} (hp : ∀ e k m, k < ev.n → I m e → I (m + 2) (ev.do_ e k).1) : ∀ (k i : Nat) (m : Nat) (e E : Eng), i + k ≤ ev.n → I m e → Eng.run ev k i e = (E, none) → I (m + 2 * k) E := by
  intro k
  induction k with
  | zero => intro i m e E _ h hr; cases hr; exact h
  | succ k ih =>
    intro i m e E hi h hr
    have h1 := hp e i m (by omega) h
    unfold Eng.run at hr
    split at hr
    · have := ih (i + 1) (m + 2) _ E (by omega) h1 hr
      rw [show m + 2 * (k + 1) = m + 2 + 2 * k by omega]
      exact this
    · cases hr
theorem chain_I {ev : Eng.Evs} {I : Nat → Eng → Prop} (hp : ∀ e k m, k < ev.n → I m e → I (m + 2) (ev.do_ e k).1) (hmono : ∀ m m' e, I m e → m ≤ m' → I m' e) {lo hi m : Nat} {e : Eng} (hlo : lo ≤ ev.n) (h : I m e) : I (m + 2 * (hi + 1 - lo)) (Eng.chain ev lo hi e).1 := by
  cases hr : Eng.run ev (min (hi + 1) ev.n - lo) lo e with
  | mk E o =>
    cases o with
    | some p => rw [chain_some rfl hr]; exact hmono _ _ _ h (by omega)
    | none =>
      rw [chain_none rfl hr]
      split
      · exact hmono _ _ _ h (by omega)
      · exact hmono _ _ _ (run_I hp _ _ m e E (by omega) h hr) (by omega)
theorem chainEnd_le (ev : Eng.Evs) : ∀ (m i : Nat), i ≤ Eng.chainEnd ev m i ∧ Eng.chainEnd ev m i ≤ i + m := by
  intro m
  induction m with
  | zero => intro i; exact ⟨Nat.le_refl _, Nat.le_refl _⟩
  | succ m ih =>
    intro i
    unfold Eng.chainEnd
    split
    · have := ih (i + 1); omega
    · omega
structure BaS where
  i : Nat
  f : Nat
  E : Eng
  ei : EngI
  out : List (Int × Int)
  p : Option Addr
  c : Nat
structure BaOk (ev : Eng.Evs) (I : Nat → Eng → Prop) (m0 : Nat) (e : Eng) (x : BaS) : Prop where
  i : x.i ≤ ev.n + 1
  f : ev.n ≤ x.i + x.f
  l : x.out.length ≤ x.i
  ei : x.ei.lb.length = x.E.rws.length
  I : I (m0 + 2 * x.i) x.E
  s : Eng.batch ev ev.n 0 e = ((Eng.batch ev x.f x.i x.E).1, x.out ++ (Eng.batch ev x.f x.i x.E).2)
set_option maxHeartbeats 2000000 in
theorem batch_tr {κ : Kap} {b : Nat} {ev : Eng.Evs} {I : Nat → Eng → Prop} {fd ff : FuncId} {cap capf : List Value} {K : List HProp} (hdo : DoOk Tryd.prog κ b ev I fd cap K) (hfl : FlOk Tryd.prog κ ev ff capf K) (hW : ∀ m e, I m e → EngW m e) (hmono : ∀ m m' e, I m e → m ≤ m' → I m' e) (hn : ev.n < 1000)
    (e : Eng) (m0 : Nat) (hm0 : m0 + 8000 < 70000) (hI : I m0 e) (i : EngI) (hi0 : i.lb.length = e.rws.length) (R : List HProp) (hK : Has K R) :
    Te Tryd.prog 39 [.pointer (some ⟨b, 0, none⟩), .int .i64 ev.n, .func (.func ff) #[] capf.toArray, .func (.func fd) #[] cap.toArray] κ (engO b e i R) (fun x : EngI × Option Addr × Nat => x.1.lb.length = (Eng.batch ev ev.n 0 e).1.rws.length)
      (fun x => .slice x.2.1 (Eng.batch ev ev.n 0 e).2.length x.2.2) (fun x => sl 2 (.slice x.2.1 (Eng.batch ev ev.n 0 e).2.length x.2.2) (45, (Eng.batch ev ev.n 0 e).2.flatMap encRes) :: engO b (Eng.batch ev ev.n 0 e).1 x.1 R) := by
  refine .enter Tryd.func39 rfl rfl ?_
  have hcal := hdo.cal
  have hcalf := hfl.cal
  refine .seq ?_
  refine .reg ?_
  refine .as ?_
  refine .go ?_
  refine .seq ?_
  refine .reg ?_
  refine .as ?_
  refine .go ?_
  refine .seq ?_
  refine .seq ?_
  refine .reg ?_
  refine .as ?_
  refine .go ?_
  refine .block ?_
  refine .sat (fun w hs => hs.nilS 2 45) ?_
  refine .lp (fun x : BaS => [(0, .pointer (some ⟨b, 0, none⟩)), (1, .int .i64 ev.n), (2, .func (.func ff) #[] capf.toArray), (3, .func (.func fd) #[] cap.toArray), (9, .slice x.p x.out.length x.c), (10, .int .i64 x.i)])
    (fun x => sl 2 (.slice x.p x.out.length x.c) (45, x.out.flatMap encRes) :: engO b x.E x.ei R) (BaOk ev I m0 e) (fun x => ev.n + 1 - x.i) ⟨0, ev.n, e, i, [], none, 0⟩ ⟨Nat.zero_le _, by show ev.n ≤ 0 + ev.n; omega, Nat.le_refl _, hi0, hI, by simp⟩ (by repeat (first | exact trivial | refine ⟨rfl, ?_⟩)) rfl fun x hx => ?_
  obtain ⟨k, f, E, iE, out, pp, cc⟩ := x
  obtain ⟨hk, hf, hl, hiE, hIE, hs0⟩ := hx
  simp only at hk hf hl hiE hIE hs0
  refine .sat (cs' := sl 2 (.slice pp out.length cc) (45, out.flatMap encRes) :: engO b E iE R) (fun w hs => hs) ?_
  refine .seq ?_
  refine .seq ?_
  refine .reg ?_
  refine .mv ?_
  refine .mv ?_
  refine .lt ?_
  refine .go ?_
  refine .cond rfl (fun hc => ?_) (fun hc => ?_)
  · have hkn : k < ev.n := by have : (k : Int) < ev.n := of_decide_eq_true hc; omega
    obtain ⟨f, rfl⟩ : ∃ f', f = f' + 1 := ⟨f - 1, by omega⟩
    have hce := chainEnd_le ev (ev.n - k) k
    have hbs : Eng.batch ev (f + 1) k E = ((Eng.batch ev f (Eng.chainEnd ev (ev.n - k) k + 1) (Eng.chain ev k (Eng.chainEnd ev (ev.n - k) k) E).1).1, (Eng.chain ev k (Eng.chainEnd ev (ev.n - k) k) E).2 ++ (Eng.batch ev f (Eng.chainEnd ev (ev.n - k) k + 1) (Eng.chain ev k (Eng.chainEnd ev (ev.n - k) k) E).1).2) := if_pos hkn
    refine .go ?_
    refine .block ?_
    refine .seq ?_
    refine .reg ?_
    refine .mv ?_
    refine .as ?_
    refine .go ?_
    refine .jn (ι := Unit) (fun _ => [(0, .pointer (some ⟨b, 0, none⟩)), (1, .int .i64 ev.n), (2, .func (.func ff) #[] capf.toArray), (3, .func (.func fd) #[] cap.toArray), (9, .slice pp out.length cc), (10, .int .i64 k), (11, .int .i64 (Eng.chainEnd ev (ev.n - k) k : Nat))]) (fun _ => sl 2 (.slice pp out.length cc) (45, out.flatMap encRes) :: engO b E iE R) (fun _ => True) ?_ fun _ _ => ?_
    · refine .block ?_
      refine .lp (fun h : Nat => [(0, .pointer (some ⟨b, 0, none⟩)), (1, .int .i64 ev.n), (2, .func (.func ff) #[] capf.toArray), (3, .func (.func fd) #[] cap.toArray), (9, .slice pp out.length cc), (10, .int .i64 k), (11, .int .i64 h)]) (fun _ => sl 2 (.slice pp out.length cc) (45, out.flatMap encRes) :: engO b E iE R) (fun h => k ≤ h ∧ h ≤ ev.n ∧ Eng.chainEnd ev (ev.n - k) k = Eng.chainEnd ev (ev.n - h) h) (fun h => ev.n - h) k ⟨Nat.le_refl _, by omega, rfl⟩ (by repeat (first | exact trivial | refine ⟨rfl, ?_⟩)) rfl fun h hh => ?_
      obtain ⟨hh1, hh2, hh3⟩ := hh
      refine .seq ?_
      refine .seq ?_
      refine .reg ?_
      refine .mv ?_
      refine .mv ?_
      refine .lt ?_
      refine .mv ?_
      by_cases h1 : (h : Int) < ev.n
      · rw [decide_eq_true h1]
        have hcl := Tr.ef1 (hfl.run b E iE h (sl 2 (.slice pp out.length cc) (45, out.flatMap encRes) :: R) (by omega) (hK.cons _))
        have hce2 : Eng.chainEnd ev (ev.n - h) h = if band (ev.flags h) 1 ≠ 0 then Eng.chainEnd ev (ev.n - (h + 1)) (h + 1) else h := by
          obtain ⟨m, hm⟩ : ∃ m, ev.n - h = m + 1 := ⟨ev.n - h - 1, by omega⟩
          rw [hm, show ev.n - (h + 1) = m by omega]; rfl
        refine .mv ?_
        refine .mv ?_
        refine .clV (fst := []) (cap := capf) (vs := [.int .i64 h]) hcl ?_
        refine .an ?_
        refine .ne ?_
        first | refine .pt ?_ | refine .pf ?_
        refine .go ?_
        refine .cond rfl (fun hc => ?_) (fun hc => ?_)
        · rw [if_pos (of_decide_eq_true hc)] at hce2
          refine .go ?_
          refine .block ?_
          refine .reg ?_
          refine .mv ?_
          refine .ad ?_
          refine .as ?_
          exact .nil fun aa w hf hs => ⟨h + 1, ⟨by omega, by omega, hh3.trans hce2⟩, by omega, hf.to (by repeat (first | exact trivial | refine ⟨rfl, ?_⟩)), hs⟩
        · rw [if_neg (of_decide_eq_false hc)] at hce2
          refine .xnil fun aa w hf hs => ⟨(), trivial, ?_, hs⟩
          rw [hh3, hce2]
          exact hf.to (by repeat (first | exact trivial | refine ⟨rfl, ?_⟩))
      · rw [decide_eq_false h1]
        repeat refine .skip ?_
        first | refine .pt ?_ | refine .pf ?_
        refine .go ?_
        refine .cond rfl (fun hc => by cases hc) (fun hc => ?_)
        refine .xnil fun aa w hf hs => ⟨(), trivial, ?_, hs⟩
        rw [hh3, show ev.n - h = 0 by omega]
        exact hf.to (by repeat (first | exact trivial | refine ⟨rfl, ?_⟩))
    generalize hhi : Eng.chainEnd ev (ev.n - k) k = hi at *
    have hct := chain_tr hdo hW k hi hkn (by omega) (by omega) hn E (m0 + 2 * k) (by omega) hIE iE hiE (sl 2 (.slice pp out.length cc) (45, out.flatMap encRes) :: R) (hK.cons _)
    have hcI := chain_I hdo.pres hmono (lo := k) (hi := hi) (by omega) hIE
    have hcl := chain_len ev k hi E
    generalize Eng.chain ev k hi E = r at *
    refine .seq ?_
    refine .reg ?_
    refine .mv ?_
    refine .mv ?_
    refine .mv ?_
    refine .mv ?_
    refine .mv ?_
    refine .mv ?_
    refine .ce (ι := EngI × Option Addr × Nat) (p := fun x => x.1.lb.length = r.1.rws.length) (r := fun x => .slice x.2.1 r.2.length x.2.2) (cs' := fun x => sl 2 (.slice x.2.1 r.2.length x.2.2) (45, r.2.flatMap encRes) :: sl 2 (.slice pp out.length cc) (45, out.flatMap encRes) :: engO b r.1 x.1 R)
      (fun w hs => (hct w (hs.imp fun _ hg => (eng_back [_]).1 hg)).mono fun _ _ ⟨x, h0, h1, h2⟩ => ⟨x, h0, h1, h2.imp fun _ hg => sepL_tails (F := [_]) (fun _ hg => (eng_back [_]).2 hg) hg⟩) (fun x hx => ?_)
    obtain ⟨i', p1, c1⟩ := x
    refine .rds p1 r.2.length c1 2 (hrd := by intro b hb; rw [hb]; infer_instance) fun hrd _ => ?_
    refine .ap hrd (fun p2 c2 => ?_) (show (r.2.flatMap encRes).length = r.2.length * 2 by rw [flat_len encRes 2 (fun _ => rfl)]) (one_flat encRes (fun _ => rfl) _)
    rw [show out.length + r.2.length = (out ++ r.2).length from List.length_append.symm, ← List.flatMap_append]
    refine .as ?_
    refine .go ?_
    refine .reg ?_
    refine .mv ?_
    refine .ad ?_
    refine .as ?_
    refine .nil fun aa w hf hs => ⟨⟨hi + 1, f, r.1, i', out ++ r.2, p2, c2⟩, ⟨by show hi + 1 ≤ _; omega, by show ev.n ≤ hi + 1 + f; omega, by show (out ++ r.2).length ≤ hi + 1; rw [List.length_append]; omega, hx, ?_, ?_⟩, by show ev.n + 1 - (hi + 1) < ev.n + 1 - k; omega, hf.to (by repeat (first | exact trivial | refine ⟨rfl, ?_⟩)), hs.rows⟩
    · show I (m0 + 2 * (hi + 1)) r.1
      rw [show m0 + 2 * (hi + 1) = m0 + 2 * k + 2 * (hi + 1 - k) by omega]
      exact hcI
    · rw [hs0, hbs]
      simp only [List.append_assoc]
  · have hkn : ¬ k < ev.n := by have : ¬ (k : Int) < ev.n := of_decide_eq_false hc; omega
    have hbn : Eng.batch ev f k E = (E, []) := by
      cases f with
      | zero => rfl
      | succ f => exact if_neg hkn
    rw [hbn] at hs0
    simp only [List.append_nil] at hs0
    rw [hs0]
    refine .xgo ?_
    refine .seq ?_
    refine .reg ?_
    refine .mv ?_
    refine .as ?_
    refine .go ?_
    refine .r1 fun w hs => ?_
    exact ⟨(iE, pp, cc), hiE, rfl, hs⟩
end Go.Proofs.YtpcechnalfaajaaDoor

/- The engine's steps keep what the walks ask. -/
namespace Go.Proofs.YtpcechnalfaajaaDoor
open Go Go.Proofs

theorem posN_mem {x : Num} {l : List Num} : posN x l ≠ none ↔ x ∈ l := by
  rw [ne_eq, posN_none, Classical.not_not]
theorem mem_snoc {x y : Num} {l : List Num} (h : posN x l ≠ none) : posN x (l ++ [y]) ≠ none := by
  rw [posN_mem] at h ⊢
  exact List.mem_append_left _ h
theorem flags_two_all : (List.range 256).all (fun f => !(oneF (f : Int) [2, 4, 8] && decide (band (f : Int) 12 ≠ 0)) || decide (band (f : Int) 2 = 0)) = true := by kernel_rfl
theorem flags_two {f : Int} (h0 : 0 ≤ f) (h1 : f ≤ 255) (h2 : oneF f [2, 4, 8] = true) (h3 : band f 12 ≠ 0) : band f 2 = 0 := by
  have := List.all_eq_true.1 flags_two_all f.toNat (by rw [List.mem_range]; omega)
  rw [show ((f.toNat : Nat) : Int) = f by omega, h2] at this
  simpa [h3] using this
/-- What a transfer's rule tells. -/
theorem ruleT_ok {t : Transfer} (h : ruleT t = 0) : t.id ≠ 0 ∧ 0 ≤ t.flags ∧ t.flags ≤ 255 ∧ oneF t.flags [2, 4, 8] = true ∧ ¬ (band t.flags 192 ≠ 0 ∧ band t.flags 2 = 0) ∧ ¬ (band t.flags 48 ≠ 0 ∧ secondT t = true) ∧ secondT t = decide (t.pid ≠ 0) ∧ ¬ (secondT t = true ∧ t.pid = t.id) ∧ ¬ (t.timeout ≠ 0 ∧ band t.flags 2 = 0) := by
  unfold ruleT at h
  split at h
  · cases h
  rename_i h1
  split at h
  · cases h
  rename_i h2
  split at h
  · cases h
  rename_i h3
  split at h
  · cases h
  rename_i h4
  simp only [not_or] at h2 h3
  exact ⟨h1, by omega, by omega, by simpa using h2.2.2.1, h2.2.2.2.1, h2.2.2.2.2, Classical.not_not.1 h3.1, h3.2, h4⟩
theorem ruleT_pid {t : Transfer} (h : ruleT t = 0) (hp : t.pid ≠ 0) : band t.flags 2 = 0 := by
  obtain ⟨_, h0, h1, h2, _, _, h3, _⟩ := ruleT_ok h
  refine flags_two h0 h1 h2 ?_
  rw [decide_eq_true hp] at h3
  exact of_decide_eq_true h3
theorem makeAccount_w {m : Nat} {e : Eng} (h : EngW m e) (a : Account) : EngW (m + 2) (e.makeAccount a).1 := by
  unfold Eng.makeAccount
  split
  · exact h.mono (by omega)
  split
  · exact h.mono (by omega)
  rename_i hp
  split
  · exact h.mono (by omega)
  rename_i h32
  have hna : a.id ∉ e.ids := by
    unfold Eng.account at hp
    rw [Option.map_eq_none_iff, posN_none] at hp
    exact hp
  have hids : ∀ (A : Account), A.id = a.id → ({ e with time := e.time + 1, acc := e.acc ++ [A], rws := e.rws ++ [[]] } : Eng).ids = e.ids ++ [a.id] := fun A hA => by simp [Eng.ids, hA]
  generalize hA : (⟨a.id, a.ledger, bclr a.flags 1, 0, 0, 0, 0, e.time + 1, 0, rootN []⟩ : Account) = A
  have hAi : A.id = a.id := by rw [← hA]
  have htm := h.htm
  constructor
  · rw [hids A hAi, List.nodup_append]
    refine ⟨h.hn, by simp, ?_⟩
    intro x hx y hy
    rw [List.mem_singleton] at hy
    subst hy
    intro hxy
    subst hxy
    exact hna hx
  · exact h.hnt
  · have := h.la; simp; omega
  · exact h.lt
  · have := h.lr; simp; omega
  · intro l hl
    rcases List.mem_append.1 hl with hl | hl
    · have := h.lw l hl; omega
    · rw [List.mem_singleton.1 hl]; simp
  · show 0 ≤ e.time + 1 ∧ e.time + 1 ≤ _
    omega
  · exact h.hnow
  · exact h.htick
  · intro id t ht
    rw [hids A hAi]
    exact mem_snoc (h.hpay id t ht)
  · exact h.hpid
  · intro p hp hc
    rw [hids A hAi]
    exact ⟨mem_snoc (h.hdc p hp hc).1, mem_snoc (h.hdc p hp hc).2⟩
theorem transfer_snoc {e e' : Eng} {t : Transfer} (ht : e'.trs = e.trs ++ [t]) {x : Num} (hx : posN x e.tids ≠ none) : e'.transfer x = e.transfer x := by
  have htid : e'.tids = e.tids ++ [t.id] := by unfold Eng.tids; rw [ht]; simp
  obtain ⟨k, hk⟩ := Option.ne_none_iff_exists'.1 hx
  obtain ⟨hkl, _⟩ := posN_some hk
  have hkt : k < e.trs.length := by simpa [Eng.tids] using hkl
  unfold Eng.transfer
  rw [htid, posN_app, hk]
  simp only [Option.some_or, Option.map_some]
  rw [ht]
  simp [List.getD, List.getElem?_append_left hkt]
theorem payer_snoc {e e' : Eng} {t : Transfer} (ht : e'.trs = e.trs ++ [t]) {u : Transfer} (hu : u.pid ≠ 0 → posN u.pid e.tids ≠ none) : e'.payer u = e.payer u := by
  unfold Eng.payer
  split
  · rfl
  · rename_i h
    rw [transfer_snoc ht (hu h)]
theorem transfer_mem {e : Eng} {x : Num} {t : Transfer} (h : e.transfer x = some t) : t ∈ e.trs ∧ t.id = x := by
  unfold Eng.transfer at h
  cases hk : posN x e.tids with
  | none => rw [hk] at h; cases h
  | some k =>
    rw [hk] at h
    simp only [Option.map_some, Option.some.injEq] at h
    obtain ⟨hkl, hkid⟩ := posN_some hk
    have hkt : k < e.trs.length := by simpa [Eng.tids] using hkl
    rw [getD_at hkt] at h
    subst h
    exact ⟨List.getElem_mem hkt, by simpa [Eng.tids] using hkid⟩
theorem add_w {m : Nat} {e : Eng} (h : EngW m e) (t : Transfer) (n : Num) (d c : Nat) (hid : t.id ∉ e.tids) (hl : e.trs.length ≤ 255) (hpay : t.pid = 0 → posN t.debit e.ids ≠ none)
    (hpid : t.pid ≠ 0 → posN t.pid e.tids ≠ none ∧ posN ((e.transfer t.pid).getD zT).debit e.ids ≠ none) (hdc : (band t.flags 2 ≠ 0 ∨ t.state = 1) → posN t.debit e.ids ≠ none ∧ posN t.credit e.ids ≠ none) :
    EngW (m + 2) (e.add t n d c) ∧ (e.add t n d c).ids = e.ids := by
  have hadd : ∀ t', ({ t with time := e.time + 1, tick := e.now } : Transfer) = t' → e.add t n d c = (({ e with time := e.time + 1, trs := e.trs ++ [t'] } : Eng).row1 t'.id (bclr t'.flags 1) n d).row1 t'.id (bclr t'.flags 1) n c := fun t' h => by rw [← h]; rfl
  obtain ⟨t', ht'⟩ : ∃ t', ({ t with time := e.time + 1, tick := e.now } : Transfer) = t' := ⟨_, rfl⟩
  rw [hadd t' ht']
  have c1 : t'.id = t.id ∧ t'.debit = t.debit ∧ t'.credit = t.credit ∧ t'.pid = t.pid ∧ t'.flags = t.flags ∧ t'.state = t.state ∧ t'.tick = e.now := by rw [← ht']; exact ⟨rfl, rfl, rfl, rfl, rfl, rfl, rfl⟩
  obtain ⟨c1, c2, c3, c4, c5, c6, c7⟩ := c1
  generalize he1 : ({ e with time := e.time + 1, trs := e.trs ++ [t'] } : Eng) = e1
  have f1 : e1.ids = e.ids ∧ e1.trs = e.trs ++ [t'] ∧ e1.now = e.now ∧ e1.time = e.time + 1 ∧ e1.rws = e.rws ∧ e1.acc = e.acc := by rw [← he1]; exact ⟨rfl, rfl, rfl, rfl, rfl, rfl⟩
  obtain ⟨f1, f2, f3, f4, f5, f6⟩ := f1
  generalize he2 : (e1.row1 t'.id (bclr t'.flags 1) n d).row1 t'.id (bclr t'.flags 1) n c = e2
  have g1 : e2.ids = e.ids := by rw [← he2, Eng.row1_ids, Eng.row1_ids, f1]
  have g2 : e2.trs = e.trs ++ [t'] := by rw [← he2, Eng.row1_trs, Eng.row1_trs, f2]
  have g3 : e2.now = e.now := by rw [← he2, Eng.row1_now, Eng.row1_now, f3]
  have g4 : e2.time = e.time + 1 := by rw [← he2, Eng.row1_time, Eng.row1_time, f4]
  have g5 : e2.rws.length = e.rws.length := by rw [← he2, Eng.row1_rws_len, Eng.row1_rws_len, f5]
  have g6 : e2.acc.length = e.acc.length := by rw [← he2, Eng.row1_acc_len, Eng.row1_acc_len, f6]
  have g7 : ∀ l ∈ e2.rws, l.length ≤ m + 2 := by rw [← he2]; exact row1_lw (row1_lw (by rw [f5]; exact h.lw) _ _ _ _) _ _ _ _
  have g8 : e2.tids = e.tids ++ [t.id] := by unfold Eng.tids; rw [g2]; simp [c1]
  have htm := h.htm
  refine ⟨?_, g1⟩
  constructor
  · rw [g1]; exact h.hn
  · rw [g8, List.nodup_append]
    refine ⟨h.hnt, by simp, ?_⟩
    intro x hx y hy
    rw [List.mem_singleton] at hy
    subst hy
    intro hxy
    subst hxy
    exact hid hx
  · rw [g6]; exact h.la
  · rw [g2]; simp; omega
  · rw [g5, g6]; exact h.lr
  · exact g7
  · rw [g4]; omega
  · rw [g3]; exact h.hnow
  · intro p hp
    rw [g2] at hp
    rw [g3]
    rcases List.mem_append.1 hp with hp | hp
    · exact h.htick p hp
    · rw [List.mem_singleton.1 hp, c7]; exact ⟨h.hnow.1, Int.le_refl _⟩
  · intro id u hu
    rw [g1]
    have hu2 := transfer_mem hu
    rw [g2] at hu2
    rcases List.mem_append.1 hu2.1 with hm | hm
    · rw [payer_snoc g2 (h.hpid u hm)]
      have hx : posN id e.tids ≠ none := by
        rw [posN_mem, ← hu2.2]
        exact List.mem_map_of_mem hm
      rw [transfer_snoc g2 hx] at hu
      exact h.hpay id u hu
    · rw [List.mem_singleton] at hm
      subst hm
      rw [payer_snoc g2 (fun hp => by rw [c4] at hp ⊢; exact (hpid hp).1)]
      unfold Eng.payer
      rw [c4, c2]
      split
      · rename_i h0; exact hpay h0
      · rename_i h0; exact (hpid h0).2
  · intro u hu hp
    rw [g2] at hu
    rw [g8]
    rcases List.mem_append.1 hu with hm | hm
    · exact mem_snoc (h.hpid u hm hp)
    · rw [List.mem_singleton] at hm
      subst hm
      rw [c4] at hp ⊢
      exact mem_snoc (hpid hp).1
  · intro u hu hc
    rw [g2] at hu
    rw [g1]
    rcases List.mem_append.1 hu with hm | hm
    · exact h.hdc u hm hc
    · rw [List.mem_singleton] at hm
      subst hm
      rw [c2, c3]
      rw [c5, c6] at hc
      exact hdc hc
theorem acc_w {m : Nat} {e : Eng} (h : EngW m e) {A : List Account} (hA : A.map (·.id) = e.acc.map (·.id)) : EngW m { e with acc := A } :=
  h.core (e' := { e with acc := A }) hA rfl (by have := congrArg List.length hA; simp at this; show e.rws.length = A.length; rw [this]; exact h.lr) h.lw h.htm ⟨Int.le_refl _, h.hnow.2⟩ (fun _ => id)
theorem firC_id (t : Transfer) (k : Int) (x : Account) : (firC t k x).id = x.id := by unfold firC; split <;> rfl
theorem firX_id (t : Transfer) (n : Num) (x : Account) : (firX t n x).id = x.id := by unfold firX; split <;> rfl
theorem firY_id (t : Transfer) (n : Num) (x : Account) : (firY t n x).id = x.id := by unfold firY; split <;> rfl
theorem set2_ids {A : List Account} {d c : Nat} {x y : Account} (hx : x.id = (A.getD d zA).id) (hy : y.id = (A.getD c zA).id) : ((A.set d x).set c y).map (·.id) = A.map (·.id) := by
  have a1 : (A.set d x).map (·.id) = A.map (·.id) := ids_set (e := { Eng.empty with acc := A }) hx
  have a2 : (A.set c y).map (·.id) = A.map (·.id) := ids_set (e := { Eng.empty with acc := A }) hy
  rw [List.map_set, a1, ← List.map_set, a2]
theorem first_w {m : Nat} {e : Eng} (h : EngW m e) (t : Transfer) (d c : Nat) (hid : t.id ∉ e.tids) (hl : e.trs.length ≤ 255) (hp : t.pid = 0) (hd : posN t.debit e.ids ≠ none) (hc : posN t.credit e.ids ≠ none) : EngW (m + 2) (e.first t d c).1 ∧ (e.first t d c).1.ids = e.ids := by
  rw [first_eq e t d c rfl rfl rfl rfl rfl rfl rfl]
  split
  · exact ⟨h.mono (by omega), rfl⟩
  split
  · exact ⟨h.mono (by omega), rfl⟩
  split
  · exact ⟨h.mono (by omega), rfl⟩
  generalize Eng.firstAmount t (e.acc.getD d zA) (e.acc.getD c zA) = n
  have hA := set2_ids (A := e.acc) (d := d) (c := c) (x := firC t 64 (firX t n (e.acc.getD d zA))) (y := firC t 128 (firY t n (e.acc.getD c zA))) (by rw [firC_id, firX_id]) (by rw [firC_id, firY_id])
  have hw := acc_w h hA
  have hi : ({ e with acc := (e.acc.set d (firC t 64 (firX t n (e.acc.getD d zA)))).set c (firC t 128 (firY t n (e.acc.getD c zA))) } : Eng).ids = e.ids := hA
  have := add_w hw { t with state := if pendT t then 1 else 0 } n d c hid hl (fun _ => by rw [hi]; exact hd) (fun h => absurd hp h) (fun _ => by rw [hi]; exact ⟨hd, hc⟩)
  exact ⟨this.1, this.2.trans hi⟩
theorem state_w {m : Nat} {e : Eng} (h : EngW m e) (k : Nat) (s : Int) (hs : s ≠ 1) : EngW m (e.setState k s) :=
  h.core (e' := e.setState k s) rfl (setState_core e k s) h.lr h.lw h.htm ⟨Int.le_refl _, h.hnow.2⟩ (fun j => by
    show ((e.trs.set k { e.trs.getD k zT with state := s }).getD j zT).state = 1 → _
    simp only [List.getD, List.getElem?_set]
    split
    · split
      · intro h5; exact absurd h5 hs
      · intro h5; simp [zT] at h5
    · exact id)
theorem state_ids (e : Eng) (k : Nat) (s : Int) : (e.setState k s).ids = e.ids := rfl
theorem secF_w {m : Nat} {e : Eng} (h : EngW m e) (t p : Transfer) (k d c : Nat) (held n : Num) (hid : t.id ∉ e.tids) (hl : e.trs.length ≤ 255) (hp : t.pid ≠ 0) (hk : posN t.pid e.tids = some k) (hpk : e.trs.getD k zT = p) (hpd : posN p.debit e.ids ≠ none) (hf : band t.flags 2 = 0) :
    EngW (m + 2) (secF e t p k d c held n) ∧ (secF e t p k d c held n).ids = e.ids := by
  unfold secF
  obtain ⟨A1, e1, l1, m1⟩ := Eng.release_form e p held d c (decide (band t.flags 8 ≠ 0))
  rw [e1]
  have w1 := state_w (acc_w h m1) k 3 (by decide)
  have i1 : (({ e with acc := A1 } : Eng).setState k 3).ids = e.ids := m1
  have t1 : (({ e with acc := A1 } : Eng).setState k 3).tids = e.tids := Eng.setState_tids _ _ _
  have u1 : (({ e with acc := A1 } : Eng).setState k 3).trs.map coreT = e.trs.map coreT := setState_core _ _ _
  generalize ({ e with acc := A1 } : Eng).setState k 3 = E1 at *
  have hE : ∃ E2, (if band t.flags 4 ≠ 0 then (E1.setState k 2).post n d c else E1) = E2 ∧ EngW m E2 ∧ E2.ids = e.ids ∧ E2.tids = e.tids ∧ E2.trs.map coreT = e.trs.map coreT := by
    split
    · obtain ⟨A2, e2, l2, m2⟩ := Eng.post_form (E1.setState k 2) n d c
      have w2 := acc_w (state_w w1 k 2 (by decide)) m2
      exact ⟨_, rfl, by rw [e2]; exact w2, by rw [e2]; exact m2.trans i1, by rw [e2]; exact (Eng.setState_tids E1 k 2).trans t1, by rw [e2]; exact (setState_core E1 k 2).trans u1⟩
    · exact ⟨E1, rfl, w1, i1, t1, u1⟩
  obtain ⟨E2, hE2, w2, i2, t2, u2⟩ := hE
  simp only
  rw [hE2]
  have hl2 : E2.trs.length ≤ 255 := by have := congrArg List.length u2; simp at this; omega
  have hx : E2.transfer t.pid = some (E2.trs.getD k zT) := by unfold Eng.transfer; rw [t2, hk]; rfl
  have hdeb : (E2.trs.getD k zT).debit = p.debit := by rw [← hpk]; exact (core_eq (core_at u2 k)).2.1
  have := add_w w2 { t with state := 0 } n d c (by rw [t2]; exact hid) hl2 (fun h => absurd h hp) (fun _ => ⟨by show posN t.pid E2.tids ≠ none; rw [t2, hk]; simp, by show posN ((E2.transfer t.pid).getD zT).debit E2.ids ≠ none; rw [hx, Option.getD_some, hdeb, i2]; exact hpd⟩)
    (fun h => by
      rcases h with h | h
      · exact absurd hf h
      · cases h)
  exact ⟨this.1, this.2.trans i2⟩
theorem second_w {m : Nat} {e : Eng} (h : EngW m e) (t : Transfer) (hid : t.id ∉ e.tids) (hl : e.trs.length ≤ 255) (hp : t.pid ≠ 0) (hf : band t.flags 2 = 0) : EngW (m + 2) (e.second t).1 ∧ (e.second t).1.ids = e.ids := by
  cases hk : posN t.pid e.tids with
  | none => rw [second_none hk]; exact ⟨h.mono (by omega), rfl⟩
  | some k =>
    rw [second_some hk rfl rfl]
    split
    · exact ⟨h.mono (by omega), rfl⟩
    rename_i hb
    have hkt : k < e.trs.length := by obtain ⟨h1, _⟩ := posN_some hk; simpa [Eng.tids] using h1
    have h21 : band (e.trs.getD k zT).flags 2 ≠ 0 := by
      intro h2
      apply hb
      unfold secE
      rw [if_pos h2]
      decide
    have hm : e.trs.getD k zT ∈ e.trs := by rw [getD_at hkt]; exact List.getElem_mem hkt
    exact secF_w h t _ k _ _ _ _ hid hl hp hk rfl (h.hdc _ hm (.inl h21)).1 hf
theorem makeTransfer_w {m : Nat} {e : Eng} (h : EngW m e) (t : Transfer) : EngW (m + 2) (e.makeTransfer t).1 ∧ (e.makeTransfer t).1.ids = e.ids := by
  rw [makeTransfer_eq]
  split
  · exact ⟨h.mono (by omega), rfl⟩
  rename_i hr
  have hr : ruleT t = 0 := Classical.not_not.1 hr
  split
  · exact ⟨h.mono (by omega), rfl⟩
  rename_i hp
  have hid : t.id ∉ e.tids := by
    unfold Eng.transfer at hp
    rw [Option.map_eq_none_iff, posN_none] at hp
    exact hp
  split
  · exact ⟨h.mono (by omega), rfl⟩
  rename_i h256
  have hl : e.trs.length ≤ 255 := by have := h.lt; omega
  split
  · rename_i hpid
    exact second_w h t hid hl hpid (ruleT_pid hr hpid)
  rename_i hpid
  have hpid : t.pid = 0 := Classical.not_not.1 hpid
  split
  · exact ⟨h.mono (by omega), rfl⟩
  rename_i d hd
  split
  · exact ⟨h.mono (by omega), rfl⟩
  rename_i c hc
  unfold mkT
  split
  · exact ⟨h.mono (by omega), rfl⟩
  split
  · exact ⟨h.mono (by omega), rfl⟩
  split
  · exact ⟨h.mono (by omega), rfl⟩
  split
  · exact ⟨h.mono (by omega), rfl⟩
  exact first_w h t d c hid hl hpid (by rw [hd]; simp) (by rw [hc]; simp)
theorem makeTransfer_rws {m : Nat} {e : Eng} (h : EngW m e) (t : Transfer) : (e.makeTransfer t).1.rws.length = e.rws.length := by
  have h1 := makeTransfer_w h t
  have h2 : (e.makeTransfer t).1.acc.length = e.acc.length := by have := congrArg List.length h1.2; simpa [Eng.ids] using this
  rw [h1.1.lr, h2, h.lr]
end Go.Proofs.YtpcechnalfaajaaDoor

/- engine: the closures of Apply. -/
namespace Go.Proofs.YtpcechnalfaajaaDoor
open Go Go.Proofs

theorem RdS.sat {cs K : List HProp} {p : Option Addr} {l : List Value} (r : RdS K p l) (h : ∀ κ w, Sat κ w cs → Sat κ w K) : RdS cs p l :=
  r.imp id fun ⟨b, o, e, h'⟩ => ⟨b, o, e, ⟨fun hs hl => h'.out (h _ _ hs) hl⟩⟩
theorem Has.sat {K R : List HProp} (h : Has K R) {κ : Kap} {w : World} (hs : Sat κ w R) : Sat κ w K := by
  obtain ⟨A, B, rfl⟩ := h
  have h1 : Sat κ w (K ++ B) := hs.imp fun g hg => sepL_cut [] A hg
  have h2 : Sat κ w (K ++ (B ++ [])) := by rw [List.append_nil]; exact h1
  have h3 : Sat κ w (K ++ []) := h2.imp fun g hg => sepL_cut K B hg
  rw [List.append_nil] at h3
  exact h3
theorem RdS.eng {K R : List HProp} {p : Option Addr} {l : List Value} (r : RdS K p l) (h : Has K R) (x y : HProp) (b : Nat) (e : Eng) (i : EngI) : RdS (x :: y :: engO b e i R) p l :=
  r.sat fun κ w hs => by
    have h1 : Sat κ w ([_, _, _, _, _, _] ++ (rowsP e.rws i.lb ++ R)) := hs.rows.rows
    have h2 : Sat κ w (rowsP e.rws i.lb ++ R) := h1.imp fun g hg => sepL_cut [] [_, _, _, _, _, _] hg
    have h3 : Sat κ w R := h2.imp fun g hg => sepL_cut [] (rowsP e.rws i.lb) hg
    exact h.sat h3
/-- Two rows taken out of an engine's tail. -/
theorem eng_two {κ : Kap} {g : Hp} {b : Nat} {e : Eng} {i : EngI} {x y : HProp} {A B : List HProp} : sepL κ (engO b e i (A ++ x :: y :: B)) g ↔ sepL κ (x :: y :: engO b e i (A ++ B)) g := by
  constructor
  · intro h
    have h1 := eng_tail (fun g h => sepL_swapl A [x, y] h) h
    exact (eng_back [x, y]).2 h1
  · intro h
    have h1 := (eng_back [x, y]).1 h
    exact eng_tail (fun g h => sepL_swapl [x, y] A h) h1
theorem Has.two {K R : List HProp} {x y : HProp} (h : Has (x :: y :: K) R) : ∃ R', Has K R' ∧ ∀ κ g b e i, sepL κ (engO b e i R) g ↔ sepL κ (x :: y :: engO b e i R') g := by
  obtain ⟨A, B, rfl⟩ := h
  exact ⟨A ++ (K ++ B), ⟨A, B, rfl⟩, fun κ g b e i => eng_two⟩
theorem Te.two {ι : Type} {P : Program} {f : FuncId} {args : List Value} {κ : Kap} {b : Nat} {e e' : Eng} {i : EngI} {x y : HProp} {R R' : List HProp} {p : ι → Prop} {r : ι → Value} {j : ι → EngI} (hR : ∀ κ g b e i, sepL κ (engO b e i R) g ↔ sepL κ (x :: y :: engO b e i R') g)
    (h : Te P f args κ (x :: y :: engO b e i R') p r (fun z => x :: y :: engO b e' (j z) R')) : Te P f args κ (engO b e i R) p r (fun z => engO b e' (j z) R) :=
  fun w hs => (h w (hs.imp fun _ hg => (hR ..).1 hg)).mono fun _ _ ⟨z, h0, h1, h2⟩ => ⟨z, h0, h1, h2.imp fun _ hg => (hR ..).2 hg⟩
theorem Te.in2 {ι : Type} {P : Program} {f : FuncId} {args : List Value} {κ : Kap} {b : Nat} {e e' : Eng} {i : EngI} {x y : HProp} {R : List HProp} {p : ι → Prop} {r : ι → Value} {j : ι → EngI}
    (h : Te P f args κ (engO b e i (x :: y :: R)) p r (fun z => engO b e' (j z) (x :: y :: R))) : Te P f args κ (x :: y :: engO b e i R) p r (fun z => x :: y :: engO b e' (j z) R) := Te.ef [x, y] h
theorem Tr.two {P : Program} {f : FuncId} {args : List Value} {κ : Kap} {b : Nat} {e : Eng} {i : EngI} {x y : HProp} {R R' : List HProp} {v : Value} (hR : ∀ κ g b e i, sepL κ (engO b e i R) g ↔ sepL κ (x :: y :: engO b e i R') g)
    (h : Tr P f args κ (x :: y :: engO b e i R') v (x :: y :: engO b e i R')) : Tr P f args κ (engO b e i R) v (engO b e i R) :=
  fun w hs => (h w (hs.imp fun _ hg => (hR ..).1 hg)).mono fun _ _ ⟨h1, h2⟩ => ⟨h1, h2.imp fun _ hg => (hR ..).2 hg⟩
/-- A request, as its cells lie. -/
structure Req where
  kind : Int
  pa : Option Addr
  accs : List Account
  ca : Nat
  pt : Option Addr
  trs : List Transfer
  ct : Nat
  ih : Int
  il : Int
  from_ : Int
  to_ : Int
  lim : Int
abbrev reqC (q : Req) : List Value := [.int .i64 q.kind, .slice q.pa q.accs.length q.ca, .slice q.pt q.trs.length q.ct, .int .u64 q.ih, .int .u64 q.il, .int .i64 q.from_, .int .i64 q.to_, .int .i64 q.lim]
abbrev boxE (b2 b : Nat) : HProp := pts b2 (27, [ptrV b])
abbrev boxQ (b3 : Nat) (q : Req) : HProp := pts b3 (41, reqC q)
theorem flA_ok (b2 b b3 : Nat) (q : Req) (κ : Kap) (K : List HProp) (ha : RdS K q.pa (q.accs.flatMap encA)) : FlOk Tryd.prog κ (Eng.evA q.accs) 40 [.pointer (some ⟨b3, 0, none⟩)] (boxE b2 b :: boxQ b3 q :: K) where
  cal := by infer_instance
  run := by
    intro be e i k R hk hK
    obtain ⟨R', hR', hR⟩ := hK.two
    refine Tr.two hR ?_
    refine .enter Tryd.func40 rfl rfl ?_
    have hk : k < q.accs.length := hk
    have hr := ha.eng hR' (boxE b2 b) (boxQ b3 q) be e i
    rcases hr with hr | ⟨ba, o, hpa, hr⟩
    · exfalso
      have := congrArg List.length hr
      rw [flat_len encA 46 encA_len] at this
      simp at this; omega
    have hg : getV false (q.accs.flatMap encA) (((k : Nat) : Int).toNat * 46 + 3) 1 = some (.int .i64 q.accs[k].flags) := flat_get encA 46 encA_len q.accs k 3 1 false _ hk rfl
    refine .seq ?_
    refine .reg ?_
    refine .as ?_
    refine .go ?_
    refine .seq ?_
    refine .reg ?_
    refine .fa ?_
    refine .ld ?_
    refine .mv ?_
    rw [hpa]
    refine .ix ?_
    refine .fa ?_
    rw [Nat.add_assoc o (((k : Nat) : Int).toNat * 46) 3]
    refine .lx hg ?_
    refine .as ?_
    refine .go ?_
    refine .r1 fun w hs => ?_
    have hfl : (Eng.evA q.accs).flags k = q.accs[k].flags := by show (q.accs.getD k zA).flags = _; rw [getD_at hk]
    rw [hfl]
    exact ⟨rfl, hs⟩
theorem flT_ok (b2 b b3 : Nat) (q : Req) (κ : Kap) (K : List HProp) (ha : RdS K q.pt (q.trs.flatMap encT)) : FlOk Tryd.prog κ (Eng.evT q.trs) 43 [.pointer (some ⟨b3, 0, none⟩)] (boxE b2 b :: boxQ b3 q :: K) where
  cal := by infer_instance
  run := by
    intro be e i k R hk hK
    obtain ⟨R', hR', hR⟩ := hK.two
    refine Tr.two hR ?_
    refine .enter Tryd.func43 rfl rfl ?_
    have hk : k < q.trs.length := hk
    have hr := ha.eng hR' (boxE b2 b) (boxQ b3 q) be e i
    rcases hr with hr | ⟨ba, o, hpt, hr⟩
    · exfalso
      have := congrArg List.length hr
      rw [flat_len encT 16 encT_len] at this
      simp at this; omega
    have hg : getV false (q.trs.flatMap encT) (((k : Nat) : Int).toNat * 16 + 12) 1 = some (.int .i64 q.trs[k].flags) := flat_get encT 16 encT_len q.trs k 12 1 false _ hk rfl
    refine .seq ?_
    refine .reg ?_
    refine .as ?_
    refine .go ?_
    refine .seq ?_
    refine .reg ?_
    refine .fa ?_
    refine .ld ?_
    refine .mv ?_
    rw [hpt]
    refine .ix ?_
    refine .fa ?_
    rw [Nat.add_assoc o (((k : Nat) : Int).toNat * 16) 12]
    refine .lx hg ?_
    refine .as ?_
    refine .go ?_
    refine .r1 fun w hs => ?_
    have hfl : (Eng.evT q.trs).flags k = q.trs[k].flags := by show (q.trs.getD k zT).flags = _; rw [getD_at hk]
    rw [hfl]
    exact ⟨rfl, hs⟩
theorem doA_ok (b2 b b3 : Nat) (q : Req) (κ : Kap) (hκ : Laid κ) (K : List HProp) (ha : RdS K q.pa (q.accs.flatMap encA)) :
    DoOk Tryd.prog κ b (Eng.evA q.accs) EngW 41 [.pointer (some ⟨b2, 0, none⟩), .pointer (some ⟨b3, 0, none⟩)] (boxE b2 b :: boxQ b3 q :: K) where
  cal := by infer_instance
  pres := fun e k m _ h => makeAccount_w h _
  run := by
    intro e i k m R hk hm hI hi hK
    obtain ⟨R', hR', hR⟩ := hK.two
    have hk : k < q.accs.length := hk
    have hdo : (Eng.evA q.accs).do_ e k = e.makeAccount q.accs[k] := by show e.makeAccount (q.accs.getD k zA) = _; rw [getD_at hk]
    rw [hdo]
    refine Te.two hR ?_
    refine .enter Tryd.func41 rfl rfl ?_
    have hr := fun e i => ha.eng hR' (boxE b2 b) (boxQ b3 q) b e i
    obtain ⟨ba, o, hpa, hA⟩ : ∃ ba o, q.pa = some ⟨ba, o, none⟩ ∧ ∀ e i, RdAt ba (boxE b2 b :: boxQ b3 q :: engO b e i R') o (q.accs.flatMap encA) := by
      rcases hr e i with h | ⟨ba, o, hpa, h⟩
      · exfalso
        have := congrArg List.length h
        rw [flat_len encA 46 encA_len] at this
        simp at this; omega
      · refine ⟨ba, o, hpa, fun e' i' => ?_⟩
        rcases hr e' i' with h' | ⟨ba', o', hpa', h'⟩
        · exfalso
          have := congrArg List.length h'
          rw [flat_len encA 46 encA_len] at this
          simp at this; omega
        · rw [hpa] at hpa'
          cases hpa'
          exact h'
    have hg : getV true (q.accs.flatMap encA) (((k : Nat) : Int).toNat * 46) 46 = some (.agg (encA q.accs[k]).toArray) := flat_get encA 46 encA_len q.accs k 0 46 true _ hk (getV_whole (encA_len _))
    refine .seq ?_
    refine .reg ?_
    refine .as ?_
    refine .go ?_
    refine .seq ?_
    refine .regD [(b2, 0, [ptrV b]), (b3, 0, reqC q), (ba, o, q.accs.flatMap encA)] [] ?_
    refine .ld 0 ?_
    refine .fa 1 ?_
    refine .ld 2 ?_
    refine .mv 3 ?_
    rw [hpa]
    refine .ix 4 ?_
    rw [← hpa]
    refine .lx 5 hg ?_
    have htm := hI.htm
    refine .ce 6 (Te.in2 (makeAccount_tr b e i hi q.accs[k] hI.hn (hI.rowOk (by omega)) (by omega) κ hκ _)) (fun i' hi' => ?_)
    refine .as 7 ?_
    refine .go ?_
    refine .r1 fun w hs => ?_
    exact ⟨i', hi', rfl, hs⟩
theorem doT_ok (b2 b b3 : Nat) (q : Req) (κ : Kap) (hκ : Laid κ) (K : List HProp) (ha : RdS K q.pt (q.trs.flatMap encT)) :
    DoOk Tryd.prog κ b (Eng.evT q.trs) EngW 44 [.pointer (some ⟨b2, 0, none⟩), .pointer (some ⟨b3, 0, none⟩)] (boxE b2 b :: boxQ b3 q :: K) where
  cal := by infer_instance
  pres := fun e k m _ h => (makeTransfer_w h _).1
  run := by
    intro e i k m R hk hm hI hi hK
    obtain ⟨R', hR', hR⟩ := hK.two
    have hk : k < q.trs.length := hk
    have hdo : (Eng.evT q.trs).do_ e k = e.makeTransfer q.trs[k] := by show e.makeTransfer (q.trs.getD k zT) = _; rw [getD_at hk]
    rw [hdo]
    refine Te.two hR ?_
    refine .enter Tryd.func44 rfl rfl ?_
    have hr := fun e i => ha.eng hR' (boxE b2 b) (boxQ b3 q) b e i
    obtain ⟨ba, o, hpt, hA⟩ : ∃ ba o, q.pt = some ⟨ba, o, none⟩ ∧ ∀ e i, RdAt ba (boxE b2 b :: boxQ b3 q :: engO b e i R') o (q.trs.flatMap encT) := by
      rcases hr e i with h | ⟨ba, o, hpt, h⟩
      · exfalso
        have := congrArg List.length h
        rw [flat_len encT 16 encT_len] at this
        simp at this; omega
      · refine ⟨ba, o, hpt, fun e' i' => ?_⟩
        rcases hr e' i' with h' | ⟨ba', o', hpt', h'⟩
        · exfalso
          have := congrArg List.length h'
          rw [flat_len encT 16 encT_len] at this
          simp at this; omega
        · rw [hpt] at hpt'
          cases hpt'
          exact h'
    have hg : getV true (q.trs.flatMap encT) (((k : Nat) : Int).toNat * 16) 16 = some (.agg (encT q.trs[k]).toArray) := flat_get encT 16 encT_len q.trs k 0 16 true _ hk (getV_whole (encT_len _))
    refine .seq ?_
    refine .reg ?_
    refine .as ?_
    refine .go ?_
    refine .seq ?_
    refine .regD [(b2, 0, [ptrV b]), (b3, 0, reqC q), (ba, o, q.trs.flatMap encT)] [] ?_
    refine .ld 0 ?_
    refine .fa 1 ?_
    refine .ld 2 ?_
    refine .mv 3 ?_
    rw [hpt]
    refine .ix 4 ?_
    rw [← hpt]
    refine .lx 5 hg ?_
    have htm := hI.htm
    refine .ce 6 (Te.in2 (makeTransfer_tr b e i hi q.trs[k] (m := m) (by omega) hI κ hκ _)) (fun i' hi' => ?_)
    refine .as 7 ?_
    refine .go ?_
    refine .r1 fun w hs => ?_
    exact ⟨i', hi'.trans (makeTransfer_rws hI _).symm, rfl, hs⟩
end Go.Proofs.YtpcechnalfaajaaDoor

/- engine: Apply. -/
namespace Go.Proofs.YtpcechnalfaajaaDoor
open Go Go.Proofs

/-- What a request does, what is told of its events, and the code. -/
def Eng.apply (e : Eng) (q : Req) : (Eng × List (Int × Int)) × Int :=
  if q.kind = 1 then (e.batchA q.accs, 0) else if q.kind = 2 then (e.batchT q.trs, 0)
  else if q.kind = 3 ∧ e.now < q.from_ then ((e.tick q.from_, []), 0) else ((e, []), 5)
set_option maxHeartbeats 2000000 in
theorem apply_tr (b : Nat) (e : Eng) (i : EngI) (hi : i.lb.length = e.rws.length) {m : Nat} (hm : m + 8000 < 70000) (hW : EngW m e) (q : Req) (hfrom : q.from_ ≤ 9223372036854775807) (hna : q.accs.length < 1000) (hnt : q.trs.length < 1000) (κ : Kap) (hκ : Laid κ) (K R : List HProp) (hK : Has K R)
    (ha : RdS K q.pa (q.accs.flatMap encA)) (ht : RdS K q.pt (q.trs.flatMap encT)) :
    Te Tryd.prog 16 [.pointer (some ⟨b, 0, none⟩), .agg (reqC q).toArray] κ (engO b e i R) (fun x : EngI × Option Addr × Nat => x.1.lb.length = (e.apply q).1.1.rws.length)
      (fun x => .tuple #[.slice x.2.1 (e.apply q).1.2.length x.2.2, .int .i64 (e.apply q).2]) (fun x => sl 2 (.slice x.2.1 (e.apply q).1.2.length x.2.2) (45, (e.apply q).1.2.flatMap encRes) :: engO b (e.apply q).1.1 x.1 R) := by
  obtain ⟨A, B, rfl⟩ := hK
  refine .enter Tryd.func16 rfl rfl ?_
  refine .seq ?_
  refine .reg ?_
  refine .bx fun b2 => ?_
  refine .bx fun b3 => ?_
  refine .as ?_
  refine .as ?_
  refine .go ?_
  refine .seq ?_
  refine .seq ?_
  refine .reg ?_
  refine .fa ?_
  refine .ld ?_
  refine .go ?_
  rw [show vc (.agg (reqC q).toArray) = reqC q from rfl]
  have hbA := batch_tr (b := b) (doA_ok b2 b b3 q κ hκ K ha) (flA_ok b2 b b3 q κ K ha) (fun _ _ h => h) (fun _ _ _ h => h.mono) hna e m hm hW i hi (A ++ (boxE b2 b :: boxQ b3 q :: (K ++ B))) ⟨A, B, rfl⟩
  have hbT := batch_tr (b := b) (doT_ok b2 b b3 q κ hκ K ht) (flT_ok b2 b b3 q κ K ht) (fun _ _ h => h) (fun _ _ _ h => h.mono) hnt e m hm hW i hi (A ++ (boxE b2 b :: boxQ b3 q :: (K ++ B))) ⟨A, B, rfl⟩
  have hap : e.apply q = if q.kind = 1 then (e.batchA q.accs, 0) else if q.kind = 2 then (e.batchT q.trs, 0)
    else if q.kind = 3 ∧ e.now < q.from_ then ((e.tick q.from_, []), 0) else ((e, []), 5) := rfl
  refine .block ?_
  refine .seq ?_
  refine .reg ?_
  refine .eq ?_
  refine .as ?_
  refine .go ?_
  refine .cond rfl (fun hc => ?_) (fun hc => ?_)
  · have k2 := hap.trans (if_pos (of_decide_eq_true hc))
    have hb : Eng.batch (Eng.evA q.accs) (Eng.evA q.accs).n 0 e = e.batchA q.accs := rfl
    rw [hb] at hbA
    rw [k2]
    generalize e.batchA q.accs = r at *
    refine .seq ?_
    refine .reg ?_
    refine .ld ?_
    refine .fa ?_
    refine .ld ?_
    refine .ln ?_
    refine .mf ?_
    refine .mf ?_
    refine .ce (ι := EngI × Option Addr × Nat) (p := fun x => x.1.lb.length = r.1.rws.length) (r := fun x => .slice x.2.1 r.2.length x.2.2) (cs' := fun x => sl 2 (.slice x.2.1 r.2.length x.2.2) (45, r.2.flatMap encRes) :: boxE b2 b :: boxQ b3 q :: engO b r.1 x.1 (A ++ (K ++ B)))
      (fun w hs => (hbA w ((hs.pm 2 [1, 0]).imp fun _ hg => eng_two.2 hg)).mono fun _ _ ⟨x, h0, h1, h2⟩ => ⟨x, h0, h1, h2.imp fun _ hg => sepL_tails (F := [_]) (fun _ hg => eng_two.1 hg) hg⟩) (fun x hx => ?_)
    refine .as ?_
    refine .as ?_
    refine .go ?_
    refine .r2 (h := ⟨inferInstance, rfl, .t, .t⟩) fun w hs => ?_
    exact ⟨x, hx, rfl, hs.pm 3 [0]⟩
  have h1 : ¬ q.kind = 1 := of_decide_eq_false hc
  have hap := hap.trans (if_neg h1)
  refine .seq ?_
  refine .reg ?_
  refine .eq ?_
  refine .as ?_
  refine .go ?_
  refine .cond rfl (fun hc => ?_) (fun hc => ?_)
  · have k2 := hap.trans (if_pos (of_decide_eq_true hc))
    have hb : Eng.batch (Eng.evT q.trs) (Eng.evT q.trs).n 0 e = e.batchT q.trs := rfl
    rw [hb] at hbT
    rw [k2]
    generalize e.batchT q.trs = r at *
    refine .seq ?_
    refine .reg ?_
    refine .ld ?_
    refine .fa ?_
    refine .ld ?_
    refine .ln ?_
    refine .mf ?_
    refine .mf ?_
    refine .ce (ι := EngI × Option Addr × Nat) (p := fun x => x.1.lb.length = r.1.rws.length) (r := fun x => .slice x.2.1 r.2.length x.2.2) (cs' := fun x => sl 2 (.slice x.2.1 r.2.length x.2.2) (45, r.2.flatMap encRes) :: boxE b2 b :: boxQ b3 q :: engO b r.1 x.1 (A ++ (K ++ B)))
      (fun w hs => (hbT w ((hs.pm 2 [1, 0]).imp fun _ hg => eng_two.2 hg)).mono fun _ _ ⟨x, h0, h1, h2⟩ => ⟨x, h0, h1, h2.imp fun _ hg => sepL_tails (F := [_]) (fun _ hg => eng_two.1 hg) hg⟩) (fun x hx => ?_)
    refine .as ?_
    refine .as ?_
    refine .go ?_
    refine .r2 (h := ⟨inferInstance, rfl, .t, .t⟩) fun w hs => ?_
    exact ⟨x, hx, rfl, hs.pm 3 [0]⟩
  have h2 : ¬ q.kind = 2 := of_decide_eq_false hc
  have hap := hap.trans (if_neg h2)
  have hend : ∀ (e' : Eng) w, Sat κ w (boxQ b3 q :: boxE b2 b :: engO b e' i (A ++ (K ++ B))) → Sat κ w (sl 2 (.slice none 0 0) (45, []) :: engO b e' i (A ++ (K ++ B))) := fun e' w hs => hs.rows.rows.nilS 2 45
  refine .seq ?_
  refine .reg ?_
  refine .eq ?_
  refine .as ?_
  refine .go ?_
  refine .cond rfl (fun hc => ?_) (fun hc => ?_)
  · have h3 : q.kind = 3 := of_decide_eq_true hc
    refine .seq ?_
    refine .regD [(b2, 0, [ptrV b]), (b3, 0, reqC q), (b, 0, engF e i)] [] ?_
    refine .fa 0 ?_
    refine .ld 1 ?_
    refine .ld 2 ?_
    refine .nc 3 ?_
    refine .fa 4 ?_
    refine .ld 5 ?_
    refine .gt 6 ?_
    refine .go ?_
    refine .cond rfl (fun hc => ?_) (fun hc => ?_)
    · have hnow : e.now < q.from_ := of_decide_eq_true hc
      have k2 := hap.trans (if_pos ⟨h3, hnow⟩)
      rw [k2]
      refine .seq ?_
      refine .reg ?_
      refine .ld ?_
      refine .fa ?_
      refine .ld ?_
      have htk := tick_tr b e i hi q.from_ (m := m) (by omega) hW ⟨by omega, hfrom⟩ κ hκ (boxQ b3 q :: boxE b2 b :: (A ++ (K ++ B)))
      refine .cl (Tr.ef2 htk) ?_
      refine .go ?_
      refine .seq ?_
      refine .reg ?_
      refine .as ?_
      refine .as ?_
      refine .go ?_
      refine .r2 (h := ⟨inferInstance, rfl, .t, .t⟩) fun w hs => ?_
      refine ⟨(i, none, 0), ?_, rfl, hend _ _ hs⟩
      have hw2 := tick_w hW q.from_ ⟨by omega, hfrom⟩ e.trs.length
      have : (e.tick q.from_).rws.length = e.rws.length := by
        show ((List.range e.trs.length).foldl Eng.expire1 { e with now := q.from_ }).rws.length = _
        rw [hw2.1.lr, hw2.2.acc, hW.lr]
      show i.lb.length = (e.tick q.from_).rws.length
      rw [this]; exact hi
    · have hnow : ¬ e.now < q.from_ := of_decide_eq_false hc
      have k2 := hap.trans (if_neg fun h => hnow h.2)
      rw [k2]
      refine .go ?_
      refine .seq ?_
      refine .reg ?_
      refine .as ?_
      refine .as ?_
      refine .go ?_
      refine .r2 (h := ⟨inferInstance, rfl, .t, .t⟩) fun w hs => ?_
      exact ⟨(i, none, 0), hi, rfl, hend _ _ hs⟩
  · have h3 : ¬ q.kind = 3 := of_decide_eq_false hc
    have k2 := hap.trans (if_neg fun h => h3 h.1)
    rw [k2]
    refine .go ?_
    refine .seq ?_
    refine .reg ?_
    refine .as ?_
    refine .as ?_
    refine .go ?_
    refine .r2 (h := ⟨inferInstance, rfl, .t, .t⟩) fun w hs => ?_
    exact ⟨(i, none, 0), hi, rfl, hend _ _ hs⟩
end Go.Proofs.YtpcechnalfaajaaDoor

/- The laws' first steps: New, Apply, one event. -/
namespace Go.Proofs.YtpcechnalfaajaaDoor
open Go Go.Proofs

theorem newO_tr (κ : Kap) (cs : List HProp) : Te Tryd.prog 15 [] κ cs (fun x : Nat × EngI => x.2.lb.length = Eng.empty.rws.length) (fun x => .pointer (some ⟨x.1, 0, none⟩)) (fun x => engO x.1 Eng.empty x.2 cs) :=
  fun w hs => (newE_tr κ cs w hs).mono fun _ _ ⟨b, _, h1, h2⟩ => by
    obtain ⟨i, hi, h3⟩ := eng_out h2
    exact ⟨(b, i), hi, h1, h3⟩
theorem applyF_tr (F : List HProp) (b : Nat) (e : Eng) (i : EngI) (hi : i.lb.length = e.rws.length) {m : Nat} (hm : m + 8000 < 70000) (hW : EngW m e) (q : Req) (hfrom : q.from_ ≤ 9223372036854775807) (hna : q.accs.length < 1000) (hnt : q.trs.length < 1000) (κ : Kap) (hκ : Laid κ) (K cs : List HProp) (hK : Has K (F ++ cs))
    (ha : RdS K q.pa (q.accs.flatMap encA)) (ht : RdS K q.pt (q.trs.flatMap encT)) :
    Te Tryd.prog 16 [.pointer (some ⟨b, 0, none⟩), .agg (reqC q).toArray] κ (F ++ engO b e i cs) (fun x : EngI × Option Addr × Nat => x.1.lb.length = (e.apply q).1.1.rws.length)
      (fun x => .tuple #[.slice x.2.1 (e.apply q).1.2.length x.2.2, .int .i64 (e.apply q).2]) (fun x => sl 2 (.slice x.2.1 (e.apply q).1.2.length x.2.2) (45, (e.apply q).1.2.flatMap encRes) :: (F ++ engO b (e.apply q).1.1 x.1 cs)) :=
  fun w hs => (apply_tr b e i hi hm hW q hfrom hna hnt κ hκ K (F ++ cs) hK ha ht w (hs.imp fun _ hg => (eng_back F).1 hg)).mono fun _ _ ⟨x, h0, h1, h2⟩ => ⟨x, h0, h1, h2.imp fun _ hg => sepL_tails (F := [_]) (fun _ hg => (eng_back F).2 hg) hg⟩
/-- One event's code. -/
def codeOf (l : List (Int × Int)) : Int := match l with
  | [] => 0
  | x :: _ => x.2
def do1 (e : Eng) (t : Transfer) : Eng × Int := ((e.batchT [t]).1, codeOf (e.batchT [t]).2)
theorem empty_w : EngW 0 Eng.empty where
  hn := List.nodup_nil
  hnt := List.nodup_nil
  la := by decide
  lt := by decide
  lr := rfl
  lw := fun _ h => by cases h
  htm := by decide
  hnow := by decide
  htick := fun _ h => by cases h
  hpay := fun id t h => by cases h
  hpid := fun _ h => by cases h
  hdc := fun _ h => by cases h
def acctN (n : Num) : Account := ⟨n, 1, 0, 0, 0, 0, 0, 0, 0, zeroH⟩
def reqA (p : Option Addr) (l : List Account) (c : Nat) : Req := ⟨1, p, l, c, none, [], 0, 0, 0, 0, 0, 0⟩
def reqT (p : Option Addr) (l : List Transfer) (c : Nat) : Req := ⟨2, none, [], 0, p, l, c, 0, 0, 0, 0, 0⟩
theorem fit_pure (p : Option Addr) (c : Nat) : (Eng.empty.apply (reqA p [acctN 1, acctN 1] c)).1.2 = [(1, 14)] ∧ (Eng.empty.apply (reqA p [acctN 1, acctN 1] c)).2 = 0 := by
  constructor
  · kernel_rfl
  · kernel_rfl
theorem fit_tr (κ : Kap) (hκ : Laid κ) (cs : List HProp) : Tr Tryd.prog 14 [] κ cs (.bool true) cs := by
  refine .enter Tryd.func14 rfl rfl ?_
  refine .seq ?_
  refine .reg ?_
  refine .as ?_
  refine .go ?_
  refine .seq ?_
  refine .reg ?_
  refine .ce (newO_tr κ _) (fun x hx => ?_)
  refine .as ?_
  refine .go ?_
  refine .seq ?_
  refine .reg ?_
  refine .cl (of_tr 1 (by decide) κ _) ?_
  refine .bd (r := encA (acctN 1)) ?_ ⟨inferInstance, inferInstance, rfl, by kernel_rfl⟩
  refine .al fun b2 => ?_
  refine .stw (v := .agg (encA (acctN 1)).toArray) ?_
  rw [vc_agg]
  refine .go ?_
  refine .seq ?_
  refine .reg ?_
  refine .mv ?_
  refine .lx (getV_whole (encA_len (acctN 1))) ?_
  refine .lx (getV_whole (encA_len (acctN 1))) ?_
  refine .bs (r := [acctN 1, acctN 1].flatMap encA) (fun b13 => ?_) (h := ⟨inferInstance, inferInstance, ⟨rfl, rfl, rfl, rfl⟩, rfl, by kernel_rfl⟩)
  refine .bd (r := reqC (reqA (some ⟨b13, 0, none⟩) [acctN 1, acctN 1] 2)) ?_ ⟨inferInstance, inferInstance, rfl, by kernel_rfl⟩
  refine .ce (applyF_tr [pts b13 (37, [acctN 1, acctN 1].flatMap encA), pts b2 (37, encA (acctN 1))] x.1 Eng.empty x.2 hx (m := 0) (by omega) empty_w (reqA (some ⟨b13, 0, none⟩) [acctN 1, acctN 1] 2) (by simp [reqA]) (by simp [reqA]) (by simp [reqA]) κ hκ [pts b13 (37, [acctN 1, acctN 1].flatMap encA)] cs ⟨[], _, rfl⟩ (.inr ⟨b13, 0, rfl, .ofRd (h := .head)⟩) (.inl rfl)) (fun y hy => ?_)
  obtain ⟨hf1, hf2⟩ := fit_pure (some ⟨b13, 0, none⟩) 2
  rw [hf1, hf2, show ([((1 : Int), (14 : Int))] : List (Int × Int)).length = 1 from rfl]
  generalize (Eng.empty.apply (reqA (some ⟨b13, 0, none⟩) [acctN 1, acctN 1] 2)).1.1 = e1 at *
  refine .sat (cs' := sl 2 (.slice y.2.1 1 y.2.2) (45, encRes (1, 14)) :: pts b2 (37, encA (acctN 1)) :: cs) (fun w hs => (hs.pm 3 [0, 2]).imp fun _ hg => sepL_cut [_, _] (engO x.1 e1 y.1 []) (by
    have e : engO x.1 e1 y.1 cs = engO x.1 e1 y.1 [] ++ cs := by simp
    rw [← e]; exact hg)) ?_
  refine .mv ?_
  refine .ex ?_
  refine .ex ?_
  refine .as ?_
  refine .as ?_
  refine .go ?_
  refine .slp (p := y.2.1) (cap := y.2.2) (sz := 2) (n0 := 1) (by omega) (fun br hbr _ => ?_)
  rw [hbr]
  refine .seq ?_
  refine .reg ?_
  refine .al fun b5 => ?_
  refine .go ?_
  refine .sat (cs' := ixB b5 [] :: sl 2 (.slice (some ⟨br, 0, none⟩) 1 y.2.2) (45, encRes (1, 14)) :: pts b2 (37, encA (acctN 1)) :: cs) (fun w hs => ix_in none rfl hs) ?_
  refine .seq ?_
  refine .reg ?_
  refine .mv ?_
  refine .eq ?_
  refine .mv ?_
  refine .mv ?_
  refine .ln ?_
  refine .eq ?_
  first | refine .pt ?_ | refine .pf ?_
  refine .mv ?_
  refine .mv ?_
  refine .ix ?_
  refine .fa ?_
  refine .ld ?_
  refine .eq ?_
  first | refine .pt ?_ | refine .pf ?_
  refine .mv ?_
  refine .mv ?_
  refine .ix ?_
  refine .fa ?_
  refine .ld ?_
  refine .eq ?_
  first | refine .pt ?_ | refine .pf ?_
  refine .mv ?_
  refine .cl (lenB_tr b5 [] κ _) ?_
  refine .eq ?_
  first | refine .pt ?_ | refine .pf ?_
  refine .mv ?_
  refine .lx (getV_whole (encA_len (acctN 1))) ?_
  refine .cl (ruleA_tr (acctN 1) κ _) ?_
  rw [show ruleA (acctN 1) = 0 from by kernel_rfl]
  refine .eq ?_
  first | refine .pt ?_ | refine .pf ?_
  refine .as ?_
  refine .go ?_
  refine .r1 fun w hs => ?_
  exact ⟨rfl, hs.rows.rows.rows⟩
end Go.Proofs.YtpcechnalfaajaaDoor

/- The laws' closures that do one event. -/
namespace Go.Proofs.YtpcechnalfaajaaDoor
open Go Go.Proofs

theorem doS_tr (b b8 : Nat) (e : Eng) (i : EngI) (hi : i.lb.length = e.rws.length) {m : Nat} (hm : m + 8000 < 70000) (hW : EngW m e) (t : Transfer) (κ : Kap) (hκ : Laid κ) (cs : List HProp) :
    Te Tryd.prog 18 [.agg (encT t).toArray, .pointer (some ⟨b8, 0, none⟩)] κ (boxE b8 b :: engO b e i cs) (fun i' : EngI => i'.lb.length = (do1 e t).1.rws.length) (fun _ => .int .i64 (do1 e t).2) (fun i' => boxE b8 b :: engO b (do1 e t).1 i' cs) := by
  refine .enter Tryd.func18 rfl rfl ?_
  refine .seq ?_
  refine .reg ?_
  refine .bx fun b2 => ?_
  refine .as ?_
  refine .go ?_
  refine .seq ?_
  refine .reg ?_
  refine .ld ?_
  rw [vc_agg]
  refine .ld (v := .agg (encT t).toArray) ?_
  refine .bs1 (v := .agg (encT t).toArray) (m := 16) (fun b9 => ?_) rfl
  rw [vc_agg]
  refine .bd (r := reqC (reqT (some ⟨b9, 0, none⟩) [t] 1)) ?_ ⟨inferInstance, inferInstance, rfl, by kernel_rfl⟩
  refine .sat (cs' := pts b9 (43, [t].flatMap encT) :: pts b2 (43, encT t) :: boxE b8 b :: engO b e i cs) (fun w hs => by rw [show [t].flatMap encT = encT t from by simp]; exact hs) ?_
  refine .ce (applyF_tr [pts b9 (43, [t].flatMap encT), pts b2 (43, encT t), boxE b8 b] b e i hi hm hW (reqT (some ⟨b9, 0, none⟩) [t] 1) (by simp [reqT]) (by simp [reqT]) (by simp [reqT]) κ hκ [pts b9 (43, [t].flatMap encT)] cs ⟨[], _, rfl⟩ (.inl rfl) (.inr ⟨b9, 0, rfl, .ofRd (h := .head)⟩)) (fun x hx => ?_)
  have k1 : (e.apply (reqT (some ⟨b9, 0, none⟩) [t] 1)).1.1 = (e.batchT [t]).1 := rfl
  have k2 : (e.apply (reqT (some ⟨b9, 0, none⟩) [t] 1)).1.2 = (e.batchT [t]).2 := rfl
  have k3 : (e.apply (reqT (some ⟨b9, 0, none⟩) [t] 1)).2 = 0 := rfl
  have d1 : (do1 e t).1 = (e.batchT [t]).1 := rfl
  have d2 : (do1 e t).2 = codeOf (e.batchT [t]).2 := rfl
  rw [k1] at hx
  rw [k1, k2, k3, d1, d2]
  generalize (e.batchT [t]).1 = e' at *
  generalize (e.batchT [t]).2 = l at *
  generalize x.1 = i' at *
  generalize x.2.1 = p at *
  generalize x.2.2 = c at *
  refine .sat (cs' := sl 2 (.slice p l.length c) (45, l.flatMap encRes) :: boxE b8 b :: engO b e' i' cs) (fun w hs => hs.pm 4 [0, 3]) ?_
  cases l with
  | nil =>
    refine .mv ?_
    refine .ex ?_
    refine .ex ?_
    refine .as ?_
    refine .as ?_
    refine .go ?_
    refine .seq ?_
    refine .seq ?_
    refine .reg ?_
    refine .mv ?_
    refine .ln ?_
    refine .eq ?_
    refine .go ?_
    refine .cond rfl (fun hc => ?_) (fun hc => by cases hc)
    refine .seq ?_
    refine .reg ?_
    refine .as ?_
    refine .go ?_
    refine .r1 fun w hs => ?_
    exact ⟨i', hx, rfl, hs.rows⟩
  | cons y l =>
    refine .mv ?_
    refine .ex ?_
    refine .ex ?_
    refine .as ?_
    refine .as ?_
    refine .go ?_
    refine .slp (p := p) (cap := c) (sz := 2) (n0 := (y :: l).length) (by simp) (fun br hbr _ => ?_)
    rw [hbr]
    refine .seq ?_
    refine .seq ?_
    refine .reg ?_
    refine .mv ?_
    refine .ln ?_
    refine .eq ?_
    refine .go ?_
    refine .cond rfl (fun hc => by have := of_decide_eq_true hc; simp at this; omega) (fun hc => ?_)
    have hl : 0 < (y :: l).length := by simp
    refine .go ?_
    refine .seq ?_
    refine .reg ?_
    refine .mv ?_
    refine .ix ?_
    refine .fa ?_
    refine .ld (v := .int .i64 y.2) ?_
    refine .as ?_
    refine .go ?_
    refine .r1 fun w hs => ?_
    exact ⟨i', hx, rfl, hs.rows⟩
theorem doC_tr (b b8 : Nat) (e : Eng) (i : EngI) (hi : i.lb.length = e.rws.length) {m : Nat} (hm : m + 8000 < 70000) (hW : EngW m e) (t : Transfer) (κ : Kap) (hκ : Laid κ) (cs : List HProp) :
    Te Tryd.prog 25 [.agg (encT t).toArray, .pointer (some ⟨b8, 0, none⟩)] κ (boxE b8 b :: engO b e i cs) (fun i' : EngI => i'.lb.length = (do1 e t).1.rws.length) (fun _ => .int .i64 (do1 e t).2) (fun i' => boxE b8 b :: engO b (do1 e t).1 i' cs) := by
  refine .enter Tryd.func25 rfl rfl ?_
  refine .seq ?_
  refine .reg ?_
  refine .bx fun b2 => ?_
  refine .as ?_
  refine .go ?_
  refine .seq ?_
  refine .reg ?_
  refine .ld ?_
  rw [vc_agg]
  refine .ld (v := .agg (encT t).toArray) ?_
  refine .bs1 (v := .agg (encT t).toArray) (m := 16) (fun b9 => ?_) rfl
  rw [vc_agg]
  refine .bd (r := reqC (reqT (some ⟨b9, 0, none⟩) [t] 1)) ?_ ⟨inferInstance, inferInstance, rfl, by kernel_rfl⟩
  refine .sat (cs' := pts b9 (43, [t].flatMap encT) :: pts b2 (43, encT t) :: boxE b8 b :: engO b e i cs) (fun w hs => by rw [show [t].flatMap encT = encT t from by simp]; exact hs) ?_
  refine .ce (applyF_tr [pts b9 (43, [t].flatMap encT), pts b2 (43, encT t), boxE b8 b] b e i hi hm hW (reqT (some ⟨b9, 0, none⟩) [t] 1) (by simp [reqT]) (by simp [reqT]) (by simp [reqT]) κ hκ [pts b9 (43, [t].flatMap encT)] cs ⟨[], _, rfl⟩ (.inl rfl) (.inr ⟨b9, 0, rfl, .ofRd (h := .head)⟩)) (fun x hx => ?_)
  have k1 : (e.apply (reqT (some ⟨b9, 0, none⟩) [t] 1)).1.1 = (e.batchT [t]).1 := rfl
  have k2 : (e.apply (reqT (some ⟨b9, 0, none⟩) [t] 1)).1.2 = (e.batchT [t]).2 := rfl
  have k3 : (e.apply (reqT (some ⟨b9, 0, none⟩) [t] 1)).2 = 0 := rfl
  have d1 : (do1 e t).1 = (e.batchT [t]).1 := rfl
  have d2 : (do1 e t).2 = codeOf (e.batchT [t]).2 := rfl
  rw [k1] at hx
  rw [k1, k2, k3, d1, d2]
  generalize (e.batchT [t]).1 = e' at *
  generalize (e.batchT [t]).2 = l at *
  generalize x.1 = i' at *
  generalize x.2.1 = p at *
  generalize x.2.2 = c at *
  refine .sat (cs' := sl 2 (.slice p l.length c) (45, l.flatMap encRes) :: boxE b8 b :: engO b e' i' cs) (fun w hs => hs.pm 4 [0, 3]) ?_
  cases l with
  | nil =>
    refine .mv ?_
    refine .ex ?_
    refine .ex ?_
    refine .as ?_
    refine .as ?_
    refine .go ?_
    refine .seq ?_
    refine .seq ?_
    refine .reg ?_
    refine .mv ?_
    refine .ln ?_
    refine .eq ?_
    refine .go ?_
    refine .cond rfl (fun hc => ?_) (fun hc => by cases hc)
    refine .seq ?_
    refine .reg ?_
    refine .as ?_
    refine .go ?_
    refine .r1 fun w hs => ?_
    exact ⟨i', hx, rfl, hs.rows⟩
  | cons y l =>
    refine .mv ?_
    refine .ex ?_
    refine .ex ?_
    refine .as ?_
    refine .as ?_
    refine .go ?_
    refine .slp (p := p) (cap := c) (sz := 2) (n0 := (y :: l).length) (by simp) (fun br hbr _ => ?_)
    rw [hbr]
    refine .seq ?_
    refine .seq ?_
    refine .reg ?_
    refine .mv ?_
    refine .ln ?_
    refine .eq ?_
    refine .go ?_
    refine .cond rfl (fun hc => by have := of_decide_eq_true hc; simp at this; omega) (fun hc => ?_)
    have hl : 0 < (y :: l).length := by simp
    refine .go ?_
    refine .seq ?_
    refine .reg ?_
    refine .mv ?_
    refine .ix ?_
    refine .fa ?_
    refine .ld (v := .int .i64 y.2) ?_
    refine .as ?_
    refine .go ?_
    refine .r1 fun w hs => ?_
    exact ⟨i', hx, rfl, hs.rows⟩
end Go.Proofs.YtpcechnalfaajaaDoor
