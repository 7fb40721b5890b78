/- Part 5 of the proof: U14, V13, V14, U16, V15, U17, V16, V17, U18, V18, U19, U20. -/
import Derived.Test.YtpcechnalfaajaaDoorP4
import Derived.RangeFuncRecord
import Derived.Test.YtpcechnalfaajaaDoorP3
/- index: put. -/
namespace Go.Proofs.YtpcechnalfaajaaDoor
open Go Go.Proofs

theorem put_tr : ∀ (N : Nat) (t : Tree), sizeT t ≤ N → Ok t → cntT t < 800 → ∀ (b : Nat) (key : Num) (v : Int) (κ : Kap) (cs : List HProp),
    Tr Tryd.prog 71 [.pointer (some ⟨b, 0, none⟩), .agg (nm key).toArray, .int .i64 v] κ (tn t b :: cs) (.bool (putT key v t).2) (tn (putT key v t).1 b :: cs) := by
  intro N
  induction N with
  | zero =>
    intro t hN hok hcnt b key v κ cs
    cases hok; simp only [sizeT] at hN; omega
  | succ N ih =>
    intro t hN hok hcnt b key v κ cs
    cases hok with
    | mk hv ht hsub =>
    rename_i ks vs ts
    have hcnt : ks.length + cntK ts < 800 := by simpa only [cntT] using hcnt
    have hple := placeN_le key ks
    refine .enter Tryd.func71 rfl rfl ?_
    refine .satx (ι := NodeI) (cs' := fun i => hdr b ks vs i (kidsP ts i.bs ++ cs)) (p := fun i => i.bs.length = ts.length ∧ (ts = [] → i.tp = none)) (fun w hs => by
      obtain ⟨g, sg, dg, hr⟩ := hs.ex
      obtain ⟨i, hi, hh⟩ := node_out hr
      exact ⟨i, hi, hs.os, hs.tape, hs.out, hs.ro, g, sg, dg, hh⟩) fun i hi => ?_
    refine .seq ?_
    refine .reg ?_
    refine .bx fun b4 => ?_
    refine .as ?_
    refine .go ?_
    rw [vc_agg]
    refine .rds i.kp ks.length i.kc 2 (hrd := by intro b hb; unfold hdr; rw [hb]; infer_instance) fun hrd hkc => ?_
    refine .seq ?_
    refine .reg ?_
    refine .mv ?_
    refine .ldw ?_
    refine .cl (place_tr b ks (by omega) key i.kp i.kc _ _ κ _ hrd) ?_
    refine .mv ?_
    refine .ex ?_
    refine .ex ?_
    refine .as ?_
    refine .as ?_
    refine .go ?_
    refine .seq ?_
    refine .seq ?_
    refine .reg ?_
    refine .mv ?_
    refine .go ?_
    refine .cond rfl (fun hc => ?_) (fun hc => ?_)   -- t16
    · have hlt := hple.2 hc
      refine .slp (p := i.vp) (cap := i.vcap) (sz := 1) (n0 := vs.length) (by omega) (fun bb hbb _ => ?_)
      refine .seq ?_
      refine .reg ?_
      refine .mv ?_
      refine .nc ?_
      refine .fa ?_
      refine .ld ?_
      refine .mv ?_
      refine .mv ?_
      unfold hdr
      rw [hbb]
      refine .ix ?_
      refine .sx (r' := cells .i64 (vs.set (placeN key ks).1 v)) ?_ ?_
      · show putN _ (0 + (placeN key ks).1 * 1) _ = _
        rw [Nat.zero_add, Nat.mul_one, cells_put _ _ _ _ (by omega)]
      rw [← hbb]
      refine .go ?_
      refine .seq ?_
      refine .reg ?_
      refine .as ?_
      refine .go ?_
      refine .r1 fun w hs => ?_
      have e : putT key v (.node ks vs ts) = (.node ks (vs.set (placeN key ks).1 v) ts, false) := putT_hit hc
      rw [e]
      refine ⟨rfl, hs.rows.imp fun g hg => node_in i hi ?_⟩
      show sepL κ (hdr b ks (vs.set (placeN key ks).1 v) i _) g
      unfold hdr
      rw [List.length_set]
      exact hg
    · refine .go ?_
      refine .seq ?_
      refine .seq ?_
      refine .reg ?_
      refine .mv ?_
      refine .nc ?_
      refine .fa ?_
      refine .ld ?_
      refine .nl ?_
      refine .go ?_
      generalize hJ : (placeN key ks).1 = j at *
      have hjle := hple.1
      refine .cond rfl (fun hn => ?_) (fun hn => ?_)   -- t28
      · by_cases hts : ts = []
        case neg =>
          have hpos : 0 < i.bs.length := by rw [hi.1]; exact List.length_pos_iff.2 hts
          exact .slp (p := i.tp) (cap := i.tc) (sz := 1) (n0 := i.bs.length) hpos (fun bb hbb _ => by rw [hbb] at hn; cases hn)
        subst hts
        refine .slh i.kp ks.length i.kc 2 fun hkp => ?_
        refine .slh i.vp vs.length i.vcap 1 fun hvp => ?_
        refine .seq ?_
        refine .regD [(b, 0, [.slice i.kp ks.length i.kc, .slice i.vp vs.length i.vcap, .slice i.tp i.bs.length i.tc]), (b4, 0, nm key)] [19] ?_
        refine .mv 0 ?_
        refine .mv 1 ?_
        refine .nc 2 ?_
        refine .fa 3 ?_
        refine .ld 4 ?_
        refine .mv 5 ?_
        refine .slc 0 j 6 ?_
        rw [cut0 hkp, Nat.sub_zero, Nat.sub_zero]
        refine .ldw 7 ?_
        refine .mv 9 ?_
        refine .nc 10 ?_
        refine .fa 11 ?_
        refine .ld 12 ?_
        refine .mv 13 ?_
        refine .slc j ks.length 14 ?_
        refine .bs1 (v := .agg (nm key).toArray) (m := 2) 8 (fun b37 => ?_) rfl
        rw [vc_agg]
        have hsuf := (hrd.suf (m := 2) (j := j) (by rw [flat_len nm 2 nm_len]) hkc hjle)
        rw [← flat_drop nm 2 nm_len] at hsuf
        refine .own b37 1 2 rfl ?_
        refine .ap 15 hsuf.tail (fun p44 c44 => ?_) (show ((ks.drop j).flatMap nm).length = (ks.length - j) * 2 by rw [flat_len nm 2 nm_len, List.length_drop]) (one_flat nm nm_one _)
        refine .cut i.kp ks.length i.kc 2 j i.kc hjle ⟨by omega, Nat.le_refl _⟩ ?_
        rw [← flat_take nm 2 nm_len]
        refine .rds p44 (1 + (ks.length - j)) c44 2 fun h44 _ => ?_
        refine .ap 16 h44 (fun p45 c45 => ?_) (show (nm key ++ (ks.drop j).flatMap nm).length = (1 + (ks.length - j)) * 2 by rw [List.length_append, flat_len nm 2 nm_len, List.length_drop, nm_len]; omega) (one_flat nm nm_one (key :: ks.drop j))
        refine .nc 17 ?_
        refine .fa 18 ?_
        refine .st 19 ?_
        refine .go ?_
        refine .seq ?_
        have hjv : j ≤ vs.length := by omega
        refine .regD [(b, 0, [.slice p45 (j + (1 + (ks.length - j))) c45, .slice i.vp vs.length i.vcap, .slice i.tp i.bs.length i.tc])] [19] ?_
        refine .rds i.vp vs.length i.vcap 1 (hrd := by intro b hb; rw [hb]; infer_instance) fun hrv hvc => ?_
        refine .mv 0 ?_
        refine .mv 1 ?_
        refine .nc 2 ?_
        refine .fa 3 ?_
        refine .ld 4 ?_
        refine .mv 5 ?_
        refine .slc 0 j 6 ?_
        rw [cut0 hvp, Nat.sub_zero, Nat.sub_zero]
        refine .mv 7 ?_
        refine .mv 9 ?_
        refine .nc 10 ?_
        refine .fa 11 ?_
        refine .ld 12 ?_
        refine .mv 13 ?_
        refine .slc j vs.length 14 ?_
        refine .bs1 (v := .int .i64 v) (m := 1) 8 (fun b56 => ?_) rfl
        have hsv := (hrv.suf (m := 1) (j := j) (by rw [cells_len, Nat.mul_one]) hvc hjv)
        refine .own b56 1 1 rfl ?_
        have ed : (cells .i64 vs).drop j = cells .i64 (vs.drop j) := by simp [cells, List.map_drop]
        have et : (cells .i64 vs).take j = cells .i64 (vs.take j) := by simp [cells, List.map_take]
        rw [show (cells .i64 vs).drop (j * 1) = cells .i64 (vs.drop j) by rw [Nat.mul_one, ed]] at hsv
        refine .ap 15 hsv.tail (fun p63 c63 => ?_) (show (cells .i64 (vs.drop j)).length = (vs.length - j) * 1 by simp) (cells_one _ _)
        refine .cut i.vp vs.length i.vcap 1 j i.vcap hjv ⟨by omega, Nat.le_refl _⟩ ?_
        rw [show (cells .i64 vs).take (j * 1) = cells .i64 (vs.take j) by rw [Nat.mul_one, et]]
        refine .rds p63 (1 + (vs.length - j)) c63 1 fun h63 _ => ?_
        refine .ap 16 h63 (fun p64 c64 => ?_) (show (vc (.int .i64 v) ++ cells .i64 (vs.drop j)).length = (1 + (vs.length - j)) * 1 by simp [vc]; omega) (cells_one .i64 (v :: vs.drop j))
        refine .nc 17 ?_
        refine .fa 18 ?_
        refine .st 19 ?_
        refine .go ?_
        refine .seq ?_
        refine .reg ?_
        refine .as ?_
        refine .go ?_
        refine .r1 fun w hs => ?_
        rw [putT_leaf hc, hJ]
        have hs := hs.rows.rows.rows
        refine ⟨rfl, hs.imp fun g hg => node_in ⟨p45, c45, p64, c64, i.tp, i.tc, i.bs⟩ ⟨hi.1, fun _ => hi.2 rfl⟩ ?_⟩
        have l1 : (insAt ks j key).length = j + (1 + (ks.length - j)) := by simp [insAt]; omega
        have l2 : (insAt vs j v).length = j + (1 + (vs.length - j)) := by simp [insAt]; omega
        have e1 : (insAt ks j key).flatMap nm = (ks.take j).flatMap nm ++ (nm key ++ (ks.drop j).flatMap nm) := by simp [insAt]
        have e2 : cells .i64 (insAt vs j v) = cells .i64 (vs.take j) ++ (vc (.int .i64 v) ++ cells .i64 (vs.drop j)) := by simp [insAt, cells, vc]
        unfold hdr
        rw [l1, l2, e1, e2]
        exact hg
      · refine .go ?_
        have htl : ts.length = ks.length + 1 := by
          rcases ht with h | h
          · have := hi.2 h; rw [this] at hn; cases hn
          · exact h
        have hj : j < ts.length := by omega
        have hjb : j < i.bs.length := by omega
        have hokj : Ok ts[j] := hsub _ (List.getElem_mem hj)
        have hsz := sizeK_at ts j hj
        have hcj := cntK_at ts j hj
        obtain ⟨hok', hcnt'⟩ := putT_ok key v ts[j] hokj
        have hgv : ∀ bs : List Nat, bs.length = i.bs.length → bs[j]? = i.bs[j]? → getV false (bs.map ptrV) (((j : Nat) : Int).toNat * 1) 1 = some (ptrV i.bs[j]) := by
          intro bs h1 h2
          rw [Nat.mul_one]; simp [getV, get1_eq, h2, hjb]
        have hsplit := kids_split ts i.bs j hj hjb
        have hlist : kidsP ts i.bs ++ cs = kidsP (ts.take j) (i.bs.take j) ++ tn ts[j] i.bs[j] :: (kidsP (ts.drop (j + 1)) (i.bs.drop (j + 1)) ++ cs) := by rw [hsplit]; simp
        rw [hlist]
        refine .sat (cs' := tn ts[j] i.bs[j] :: pts b4 (24, nm key) :: hdr b ks vs i (kidsP (ts.take j) (i.bs.take j) ++ (kidsP (ts.drop (j + 1)) (i.bs.drop (j + 1)) ++ cs))) (fun w hs => hs.imp fun g hg => sepL_swap (sepL_tail (fun g hg => hdr_out hg) hg)) ?_
        refine .slp (p := i.tp) (cap := i.tc) (sz := 1) (n0 := i.bs.length) (by omega) (fun bt hbt _ => ?_)
        refine .seq ?_
        refine .regD [(b, 0, [.slice i.kp ks.length i.kc, .slice i.vp vs.length i.vcap, .slice (some ⟨bt, 0, none⟩) i.bs.length i.tc]), (b4, 0, nm key), (bt, 0, i.bs.map ptrV)] [] ?_
        unfold hdr
        rw [hbt]
        refine .mv 0 ?_
        refine .nc 1 ?_
        refine .fa 2 ?_
        refine .ld 3 ?_
        refine .mv 4 ?_
        refine .ix 5 ?_
        refine .lx 6 (hgv i.bs rfl rfl) ?_
        refine .ldw 7 ?_
        refine .mv 8 ?_
        refine .cl 9 (ih ts[j] (by simp only [sizeT] at hN; omega) hokj (by omega) i.bs[j] key v κ _) ?_
        refine .as 10 ?_
        refine .go ?_
        have hres : putT key v (.node ks vs ts) = (fixT j (.node ks vs (ts.set j (putT key v ts[j]).1)) (putT key v ts[j]).1, (putT key v ts[j]).2) := by
          have := putT_kid (key := key) (v := v) (ks := ks) (vs := vs) (ts := ts) hc (by rw [hJ]; exact hj)
          simpa only [hJ] using this
        rw [hres]
        generalize putT key v ts[j] = r at *
        obtain ⟨⟨lk, lv, lt⟩, fresh⟩ := r
        cases hok' with
        | mk h1 h2 h3 =>
        simp only at *
        have hcl : lk.length + cntK lt < 900 := by simp only [cntT] at hcnt'; split at hcnt' <;> omega
        have mv : ∀ (X : List HProp) {T : List HProp} {bj : Nat} {il : NodeI} {κ : Kap} {g : Hp}, sepL κ (hdr bj lk lv il (X ++ (pts b4 (24, nm key) :: hdr b ks vs i T))) g ↔ sepL κ (hdr bj lk lv il (pts b4 (24, nm key) :: hdr b ks vs i (X ++ T))) g := by
          intro X T bj il κ g
          constructor
          · exact fun h => sepL_tails (F := [_, _, _, _]) (fun g h => sepL_swapl X [_, _, _, _, _] h) h
          · exact fun h => sepL_tails (F := [_, _, _, _]) (fun g h => sepL_swapl [_, _, _, _, _] X h) h
        refine .jn (ι := Unit) (fun _ => [(9, .bool fresh)]) (fun _ => tn (fixT j (.node ks vs (ts.set j (.node lk lv lt))) (.node lk lv lt)) b :: pts b4 (24, nm key) :: cs) (fun _ => True) ?_ fun _ _ => ?_
        · refine .satx (ι := NodeI) (cs' := fun il => hdr i.bs[j] lk lv il (pts b4 (24, nm key) :: hdr b ks vs i (kidsP lt il.bs ++ (kidsP (ts.take j) (i.bs.take j) ++ (kidsP (ts.drop (j + 1)) (i.bs.drop (j + 1)) ++ cs))))) (p := fun il => il.bs.length = lt.length ∧ (lt = [] → il.tp = none)) (fun w hs => by
            rw [← hbt] at hs
            obtain ⟨g, sg, dg, hr⟩ := hs.ex
            obtain ⟨il, hil, hh⟩ := node_out hr
            exact ⟨il, hil, hs.os, hs.tape, hs.out, hs.ro, g, sg, dg, (mv _).1 hh⟩) fun il hil => ?_
          have fold : ∀ κ g, sepL κ (hdr i.bs[j] lk lv il (pts b4 (24, nm key) :: hdr b ks vs i (kidsP lt il.bs ++ (kidsP (ts.take j) (i.bs.take j) ++ (kidsP (ts.drop (j + 1)) (i.bs.drop (j + 1)) ++ cs))))) g → sepL κ (tn (.node ks vs (ts.set j (.node lk lv lt))) b :: pts b4 (24, nm key) :: cs) g := by
            intro κ g h
            exact sepL_swap (sepL_tail (fun g h => set_in hj hi.1 h) (sepL_swap (node_in il hil ((mv _).2 h))))
          unfold hdr
          rw [hbt]
          refine .seq ?_
          refine .reg ?_
          refine .mv ?_
          refine .nc ?_
          refine .fa ?_
          refine .ld ?_
          refine .mv ?_
          refine .ix ?_
          refine .lx (hgv i.bs rfl rfl) ?_
          refine .nc ?_
          refine .fa ?_
          refine .ld ?_
          refine .ln ?_
          refine .gt ?_
          refine .go ?_
          refine .cond rfl (fun h5 => ?_) (fun h5 => ?_)   -- t88
          · have h5 : 5 < lk.length := by have := of_decide_eq_true h5; omega
            refine .reg ?_
            refine .mv ?_
            refine .mv ?_
            refine .sat (cs' := tn (.node ks vs (ts.set j (.node lk lv lt))) b :: pts b4 (24, nm key) :: cs) (fun w hs => by rw [← hbt] at hs; exact hs.imp fun g hg => fold κ g hg) ?_
            refine .cl (part_tr ks vs (ts.set j (.node lk lv lt)) j (by simpa using hj) lk lv lt (by simp) ⟨by omega, by omega⟩ h1 h2 ⟨hv, by simp [htl]⟩ (by omega) b κ _) ?_
            refine .nil fun aa w hf hs => ⟨(), trivial, hf.to (by repeat (first | exact trivial | refine ⟨rfl, ?_⟩)), ?_⟩
            have e : fixT j (.node ks vs (ts.set j (.node lk lv lt))) (.node lk lv lt) = partT (.node ks vs (ts.set j (.node lk lv lt))) j := if_pos (by simpa only [keysT] using h5)
            rw [e]; exact hs
          · have h5 : ¬ 5 < lk.length := by have := of_decide_eq_false h5; omega
            refine .skip fun aa w hf hs => ⟨(), trivial, hf.to (by repeat (first | exact trivial | refine ⟨rfl, ?_⟩)), ?_⟩
            have e : fixT j (.node ks vs (ts.set j (.node lk lv lt))) (.node lk lv lt) = .node ks vs (ts.set j (.node lk lv lt)) := if_neg (by simpa only [keysT] using h5)
            rw [e]
            rw [← hbt] at hs
            exact hs.imp fun g hg => fold κ g hg
        · refine .seq ?_
          refine .reg ?_
          refine .mv ?_
          refine .as ?_
          refine .go ?_
          refine .r1 fun w hs => ?_
          exact ⟨rfl, hs.pm 2 [0]⟩
end Go.Proofs.YtpcechnalfaajaaDoor

/- Ranges over functions; deferred calls; any object in memory. -/
namespace Go.Proofs.YtpcechnalfaajaaDoor
open Go Go.Proofs

/-- An object that is owned. -/
def pob (b : Nat) (o : Obj) : HProp := fun _ h => h = fun b' => if b' = b then some o else none
theorem Sat.pob_heap {κ : Kap} {w : World} {b : Nat} {o : Obj} {Fr : List HProp} (h : Sat κ w (pob b o :: Fr)) : w.heap[b]? = some o := by
  obtain ⟨g, s, _, h1, h2, s1, _, _, hc, _⟩ := h.ex
  have e : h1 b = some o := by rw [hc]; simp
  exact s b _ (s1 b _ e)
theorem Sat.pob_put {κ : Kap} {w : World} {b : Nat} {o o' : Obj} {Fr : List HProp} (h : Sat κ w (pob b o :: Fr)) : Sat κ (w.putObj b o') (pob b o' :: Fr) := by
  have hb := h.pob_heap
  have hlt : b < w.heap.size := by
    rcases Nat.lt_or_ge b w.heap.size with h' | h'
    · exact h'
    · simp [Array.getElem?_eq_none h'] at hb
  obtain ⟨g, s, dr, h1, h2, s1, s2, d, hc, hr⟩ := h.ex
  have e1 : h1 b = some o := by rw [hc]; simp
  have g2 : h2 b = none := by rcases d b with e | e; rw [e1] at e; cases e; exact e
  have rb : κ.ro b = none := by
    rcases dr b with e | e
    · rw [s1 b _ e1] at e; cases e
    · exact e
  have other : ∀ x', x' ≠ b → wh (w.putObj b o') x' = wh w x' := fun x' hx => World.putObj_heap_other hx
  have atb : wh (w.putObj b o') b = some o' := World.putObj_heap_same hlt
  refine ⟨h.os, h.tape, h.out, ?_, join (fun b' => if b' = b then some o' else none) h2, ?_, ?_, ?_⟩
  · intro x' o e
    have : x' ≠ b := fun k => by rw [k, rb] at e; cases e
    rw [other x' this]; exact h.ro x' o e
  · refine join_sub ?_ ?_
    · intro x' o e
      by_cases k : x' = b
      · subst k; simp at e; rw [atb, e]
      · simp [k] at e
    · intro x' o e
      have : x' ≠ b := fun k => by rw [k, g2] at e; cases e
      rw [other x' this]; exact s x' o (s2 x' o e)
  · refine Dsj.symm (dsj_join ?_ ?_)
    · intro x'
      by_cases k : x' = b
      · left; rw [k]; exact rb
      · right; simp [k]
    · exact (Dsj.sub dr s2 (Sub.refl _)).symm
  · refine ⟨_, h2, sub_join_l _ _, sub_join_r ?_, ?_, rfl, hr⟩
    all_goals
      intro x'
      by_cases k : x' = b
      · right; rw [k]; exact g2
      · left; simp [k]
theorem Sat.pob_new {κ : Kap} {w : World} {cs : List HProp} (h : Sat κ w cs) (o : Obj) : Sat κ (w.alloc o) (pob w.heap.size o :: cs) := by
  obtain ⟨g, s, dr, hr⟩ := h.ex
  have fresh : ∀ (k : Hp), Sub k (wh w) → k w.heap.size = none := by
    intro k hk
    cases e : k w.heap.size with
    | none => rfl
    | some o => have := hk _ _ e; simp [wh] at this
  have old : ∀ x' o', wh w x' = some o' → wh (w.alloc o) x' = some o' := by
    intro x' o' e
    simp only [wh, World.alloc] at e ⊢
    have hlt : x' < w.heap.size := by
      rcases Nat.lt_or_ge x' w.heap.size with h' | h'
      · exact h'
      · simp [Array.getElem?_eq_none h'] at e
    rw [Array.getElem?_push_lt hlt]
    rw [Array.getElem?_eq_getElem hlt] at e
    exact e
  have d0 : Dsj (fun b' => if b' = w.heap.size then some o else none) g := by
    intro x'
    by_cases k : x' = w.heap.size
    · right; rw [k]; exact fresh g s
    · left; simp [k]
  refine ⟨h.os, h.tape, h.out, fun x' o' e => old x' o' (h.ro x' o' e), join (fun b' => if b' = w.heap.size then some o else none) g, ?_, ?_, ?_⟩
  · refine join_sub ?_ fun x' o' e => old x' o' (s x' o' e)
    intro x' o' e
    by_cases k : x' = w.heap.size
    · subst k; simp at e; rw [← e]; exact World.alloc_heap_new w o
    · simp [k] at e
  · refine Dsj.symm (dsj_join ?_ dr.symm)
    intro x'
    by_cases k : x' = w.heap.size
    · left; rw [k]; exact fresh _ h.ro
    · right; simp [k]
  · exact ⟨_, g, sub_join_l _ _, sub_join_r d0, d0, rfl, hr⟩

/-- A call of yield: one round of the loop. -/
def YieldT (P : Program) (l : Nat) (vs : List Value) (w : World) (R : World → Prop) : Prop :=
  ∃ r : Loop, w.heap[l]? = some (.loop r) ∧ vs.length = r.params.size ∧
    RoundIn Fence.wide 0 P l r.fn ((r.params.zip vs.toArray).foldl (fun tmps (t, a) => tmps.setIfInBounds t a) r.tmps) r.assign r.body w fun e w' => e = .returned (.bool true) ∧ R w'
/-- What a loop does with each that it is handed: 'C s' is owned ahead of it, 'C (step s x)' behind it. -/
def Feed {σ α : Type} (P : Program) (κ : Kap) (l : Nat) (enc : α → List Value) (ok : σ → α → Prop) (C : σ → HProp) (step : σ → α → σ) : Prop :=
  ∀ s x F w, ok s x → Sat κ w (C s :: F) → YieldT P l (enc x) w fun w' => Sat κ w' (C (step s x) :: F)
def okF {σ α : Type} (ok : σ → α → Prop) (step : σ → α → σ) : σ → List α → Prop
  | _, [] => True
  | s, x :: xs => ok s x ∧ okF ok step (step s x) xs
theorem okF_app {σ α : Type} {ok : σ → α → Prop} {step : σ → α → σ} : ∀ (a : List α) (s : σ) (b : List α), okF ok step s (a ++ b) ↔ okF ok step s a ∧ okF ok step (a.foldl step s) b := by
  intro a
  induction a with
  | nil => intro s b; simp [okF]
  | cons x a ih => intro s b; simp [okF, ih, and_assoc]

section
variable {P : Program} {ops : Array Oper} {Q : Exit → Act → World → Prop} {n : Nd} {κ : Kap} {rest : List Oper} {l : List Oper} {L : List Nat} {W : List (Nat × Nat × List Value)} {fuel : Nat} {done : List Nat} {fr : List (Nat × Value)} {cs : List HProp}
variable {dst : Option Nat} {d : Nat} {op : Op} {ty : TypeId} {pos : String} {af : Array Edge} {g : Option (Nat × Bool)}
theorem OpN.yield {σ α : Type} {enc : α → List Value} {ok : σ → α → Prop} {C : σ → HProp} {step : σ → α → σ} {lp : Nat} {c : Operand} {xs : List Operand} {ts : Array TypeId} {s : σ} {x : α} {F : List HProp} (hfeed : Feed P κ lp enc ok C step)
    (hok : ok s x) (hf : ev fr c = some (.func (.yield lp) #[] #[])) (hx : evs fr xs = some (enc x)) :
    OpN P n κ ⟨dst, .call ⟨.value c, xs.toArray, ts⟩, ty, pos, af, g⟩ fr (C s :: F) (fun v cs' => v = .bool true ∧ cs' = C (step s x) :: F) := by
  intro a w next Q ha hs hn
  obtain ⟨r, hr, hlen, hrd⟩ := hfeed s x F w hok hs
  have hm := evs_map ha hx
  have hrun : (execOp a.eval ⟨dst, .call ⟨.value c, xs.toArray, ts⟩, ty, pos, af, g⟩).run P w = .ok (.round lp r.fn ((r.params.zip (enc x).toArray).foldl (fun tmps (t, a) => tmps.setIfInBounds t a) r.tmps) r.assign r.body) w := by
    simp only [execOp, resolve, ha.eval hf, Deferred.ofValue, Sem.run_bind, Sem.run_pure, Result.andThen_ok, invoke]
    have e : ((#[] : Array Value) ++ Array.map a.eval xs.toArray) = (enc x).toArray := by simp [hm]
    rw [e, run_yield hr (by simpa using hlen)]
  simp only [Oper.wpY, hrun, Oper.upY]
  refine RoundIn.mono hrd fun e w' ⟨he, hs'⟩ => ?_
  subst he
  exact hn _ _ w' ⟨rfl, rfl⟩ hs'
theorem St.yd {σ α : Type} {enc : α → List Value} {ok : σ → α → Prop} {C : σ → HProp} {step : σ → α → σ} {lp : Nat} {c : Operand} {xs : List Operand} {ts : Array TypeId} {s : σ} (x : α) {F : List HProp} (hfeed : Feed P κ lp enc ok C step)
    (hok : ok s x) (k : St P ops Q n κ rest ((d, .bool true) :: fr) (C (step s x) :: F)) (h : ev fr c = some (.func (.yield lp) #[] #[]) ∧ evs fr xs = some (enc x) := by exact ⟨rfl, rfl⟩)
    (hd : Nat.blt d n.n = true := by rfl) (hw : wantedF ops fr g true = true := by rfl) : St P ops Q n κ (⟨some d, .call ⟨.value c, xs.toArray, ts⟩, ty, pos, af, g⟩ :: rest) fr (C s :: F) :=
  .nn (.yield hfeed hok h.1 h.2) (fun _ _ ⟨e, e'⟩ => by rw [e, e']; exact k) hd hw
theorem Sd.yd {σ α : Type} {enc : α → List Value} {ok : σ → α → Prop} {C : σ → HProp} {step : σ → α → σ} {lp : Nat} {c : Operand} {xs : List Operand} {ts : Array TypeId} {s : σ} (i : Nat) (x : α) {F : List HProp} (hfeed : Feed P κ lp enc ok C step)
    (hok : ok s x) (k : Sd P l Q L W n κ fuel (i :: done) ((d, .bool true) :: fr) (C (step s x) :: F)) (hi : getO l i = some ⟨some d, .call ⟨.value c, xs.toArray, ts⟩, ty, pos, af, g⟩ := by rfl)
    (h : ev fr c = some (.func (.yield lp) #[] #[]) ∧ evs fr xs = some (enc x) := by exact ⟨rfl, rfl⟩) (hW : WOk F W := by infer_instance)
    (hd : Nat.blt d n.n = true := by rfl) (hw : wantedF l.toArray fr g true = true := by rfl) (hr : Region.ready .any l.toArray (listedBy l.length done) = [i] := by kernel_rfl) : Sd P l Q L W n κ (fuel + 1) done fr (C s :: F) :=
  .nn i (fr' := fun v => (d, v) :: fr) hi hr hw (.yield hfeed hok h.1 h.2) (fun _ _ hf => hf.put hd) (fun _ _ ⟨_, e'⟩ κ w hs _ => by rw [e'] at hs; exact hW.out hs.rows) (fun _ _ ⟨e, e'⟩ => by rw [e, e']; exact k)

/- A round's own code. -/
def noDefB (l : List Oper) : Bool := l.all fun o => match o.op with
  | .defer _ => false
  | _ => true
theorem noDefB_spec {l : List Oper} (h : noDefB l = true) : ∀ o ∈ l, NoDef o := by
  intro o ho c e
  have := List.all_eq_true.1 h o ho
  rw [e] at this; cases this
/-- A piece of a round's code. -/
def CoR (P : Program) (Q : Exit → Act → World → Prop) (lp : Nat) (n : Nd) (κ : Kap) (c : Code) (fr : List (Nat × Value)) (cs : List HProp) : Prop :=
  ∀ a w, Fr n a fr → Sat κ w cs → c.wpIn (fen (some lp)) 0 P Q a w
theorem CoR.seq {lp : Nat} {x y : Code} (k : CoR P (Exit.then (y.wpIn (fen (some lp)) 0 P Q) Q) lp n κ x fr cs) : CoR P Q lp n κ (.seq x y) fr cs := fun a w hf hs => wpIn_seq (k a w hf hs)
theorem CoR.block {lp id : Nat} {c : Code} (k : CoR P (Exit.inBlock id Q) lp n κ c fr cs) : CoR P Q lp n κ (.block id c) fr cs := fun a w hf hs => wpIn_block (k a w hf hs)
theorem CoR.reg {lp id : Nat} {l : List Oper} (k : St P l.toArray Q n κ l fr cs) (h : noDefB l = true := by rfl) : CoR P Q lp n κ (.region id l.toArray false) fr cs :=
  fun a w hf hs => wpR_region_litY (noDefB_spec h) (k a w hf hs)
theorem CoR.regD {lp id : Nat} (W : List (Nat × Nat × List Value)) (L : List Nat) (k : Sd P l Q L W n κ l.length [] fr cs) (h : noDefB l = true := by rfl) (hm : P.follows .mixedOrders = true := by kernel_rfl) : CoR P Q lp n κ (.region id l.toArray true) fr cs := by
  intro a w hf hs
  have hd : ∀ (i : Nat) o, l.toArray[i]? = some o → NoDef o := fun i o ho => noDefB_spec h o (List.mem_of_getElem? (by simpa using ho))
  have : (Code.region id l.toArray true).wpIn (fen (some lp)) 0 P (NoP Q) a w := wpR_region_anyY hd hm (wpAny_of_M _ _ _ _ (by
    have := k a { w with drawn := w.drawn + 1 } hf (hs.drawn _)
    simpa [listedBy] using this))
  exact wpIn_mono this NoP.imp
/-- On to what comes next. -/
theorem St.goR {lp : Nat} {y : Code} {Q' : Exit → Act → World → Prop} (k : CoR P Q' lp n κ y fr cs) (hq : ∀ a w, y.wpIn (fen (some lp)) 0 P Q' a w → Q .normal a w := by exact fun _ _ h => h) : St P ops Q n κ [] fr cs :=
  .nil fun a w hf hs => hq a w (k a w hf hs)

/-- The slots of a round: the loop's own ones, yield's arguments in the parameters. -/
def zipF : List Tmp → List Value → List (Nat × Value)
  | t :: ts, v :: vs => zipF ts vs ++ [(t, v)]
  | _, _ => []
theorem Fr.params : ∀ (ps : List Tmp) (vs : List Value) (tmps : Array Value) (fr : List (Nat × Value)), ps.length = vs.length → (∀ p ∈ ps, p < n.n) → Fr n ⟨tmps, n.ds⟩ fr →
    Fr n ⟨(ps.zip vs).foldl (fun tmps (t, a) => tmps.setIfInBounds t a) tmps, n.ds⟩ (zipF ps vs ++ fr) := by
  intro ps
  induction ps with
  | nil => intro vs tmps fr h _ hf; cases vs with
    | nil => exact hf
    | cons _ _ => simp at h
  | cons p ps ih =>
    intro vs tmps fr h hp hf
    cases vs with
    | nil => simp at h
    | cons v vs =>
      have h1 : Fr n ⟨tmps.setIfInBounds p v, n.ds⟩ ((p, v) :: fr) := Fr.put (a := ⟨tmps, n.ds⟩) hf (Nat.blt_eq.mpr (hp p (List.mem_cons_self ..)))
      have := ih vs _ ((p, v) :: fr) (by simpa using h) (fun q hq => hp q (List.mem_cons_of_mem _ hq)) h1
      simp only [List.zip_cons_cons, List.foldl_cons, zipF]
      simpa using this
/-- A loop's rounds, out of the walks of what it assigns and of its body. -/
theorem feed_of {σ α ι ι2 : Type} {lp : Nat} {r : Loop} {enc : α → List Value} {ok : σ → α → Prop} {step : σ → α → σ} (hst : r.state = .ready) (hpd : r.pending = none) (hlen : ∀ x, (enc x).length = r.params.size)
    (p : σ → ι → Prop) (X : σ → ι → List HProp) (hn : n.ds = []) (hp : ∀ t ∈ r.params, t < n.n) (hfr : Fr n ⟨r.tmps, []⟩ fr) (I2 : ι2 → List (Nat × Value)) (X2 : ι2 → List HProp) (q : σ → ι → α → ι2 → Prop)
    (hA : ∀ s i x F, ok s x → p s i → CoR P (Exit.then (fun a w => ∃ j, q s i x j ∧ Fr n a (I2 j) ∧ Sat κ w (pob lp (.loop r) :: (X2 j ++ F))) (fun _ _ _ => False)) lp n κ r.assign (zipF r.params.toList (enc x) ++ fr) (pob lp (.loop r) :: (X s i ++ F)))
    (hB : ∀ s i x j F, ok s x → p s i → q s i x j → CoR P (fun e _ w => match e with
        | .normal => ∃ i', p (step s x) i' ∧ Sat κ w (pob lp (.loop { r with state := .busy }) :: (X (step s x) i' ++ F))
        | _ => False) lp n κ r.body (I2 j) (pob lp (.loop { r with state := .busy }) :: (X2 j ++ F))) :
    Feed P κ lp enc ok (fun s => exB (p s) fun i => pob lp (.loop r) :: X s i) step := by
  intro s x F w hok hs
  obtain ⟨i, hi, hs⟩ : ∃ i, p s i ∧ Sat κ w (pob lp (.loop r) :: (X s i ++ F)) := by
    obtain ⟨g, s0, d0, hg⟩ := hs.ex
    obtain ⟨i, hi, hx⟩ := exB_out hg
    exact ⟨i, hi, hs.os, hs.tape, hs.out, hs.ro, g, s0, d0, hx⟩
  have hheap := hs.pob_heap
  refine ⟨r, hheap, hlen x, ?_⟩
  refine roundIn_of_wpIn (F := Fence.wide) trivial ?_
  have hf0 := Fr.params (n := n) r.params.toList (enc x) r.tmps fr (by rw [hlen]; simp) (fun t ht => hp t (Array.mem_toList_iff.1 ht)) (by rw [hn]; exact hfr)
  have ez : (r.params.toList.zip (enc x)).foldl (fun tmps (t, a) => tmps.setIfInBounds t a) r.tmps = (r.params.zip (enc x).toArray).foldl (fun tmps (t, a) => tmps.setIfInBounds t a) r.tmps := by
    rw [← Array.foldl_toList]; simp
  rw [ez, hn] at hf0
  have hA' := hA s i x F hok hi _ w hf0 hs
  refine wpIn_mono (F := Fence.inRound Fence.wide lp) hA' fun e a1 w1 h => ?_
  cases e with
  | normal =>
    obtain ⟨j, hj, hf1, hs1⟩ := h
    refine ⟨_, run_beginRound hs1.pob_heap hst, ?_⟩
    refine wpIn_mono (F := Fence.inRound Fence.wide lp) (hB s i x j F hok hi hj a1 _ hf1 hs1.pob_put) fun e a2 w2 h => ?_
    cases e with
    | normal =>
      obtain ⟨i', hi', hs2⟩ := h
      refine ⟨_, _, run_endRound none hs2.pob_heap, rfl, ?_⟩
      have hs3 := hs2.pob_put (o' := .loop r)
      have er : ({ state := .ready, pending := none, fn := r.fn, tmps := r.tmps, params := r.params, assign := r.assign, body := r.body, defers := r.defers } : Loop) = r := by cases r; simp_all
      simp only [Option.isNone_none, if_true] at *
      rw [er]
      exact hs3.imp fun g hg => exB_in i' hi' hg
    | _ => exact h.elim
  | _ => exact h.elim
end
end Go.Proofs.YtpcechnalfaajaaDoor

/- Ranges over functions: the statement; ends of functions with marks and deferred calls. -/
namespace Go.Proofs.YtpcechnalfaajaaDoor
open Go Go.Proofs

section
variable {P : Program} {ops : Array Oper} {Q : Exit → Act → World → Prop} {n : Nd} {κ : Kap} {rest : List Oper} {l : List Oper} {L : List Nat} {W : List (Nat × Nat × List Value)} {fuel : Nat} {done : List Nat} {fr : List (Nat × Value)} {cs : List HProp}
variable {dst : Option Nat} {d : Nat} {op : Op} {ty : TypeId} {pos : String} {af : Array Edge} {g : Option (Nat × Bool)}
theorem Co.rf {ι : Type} {gx : Operand} {ps : Array Tmp} {assign body : Code} {gf : FuncId} {fst cap : List Value} {v : Value} {p : ι → Prop} {cs' : ι → List HProp}
    (h : ∀ (lp rb : Nat) (r : Loop), r.state = .ready → r.pending = none → r.params = ps → r.assign = assign → r.body = body → Fr ⟨n.n, []⟩ ⟨r.tmps, []⟩ fr →
      Te P gf (fst ++ [.func (.yield lp) #[] #[]] ++ cap) κ (pob lp (.loop r) :: pob rb (.deferred (some [])) :: cs) p (fun _ : ι => v) (fun i => pob lp (.loop r) :: pob rb (.deferred (some [])) :: cs' i))
    (k : ∀ rb i, p i → ∀ a w, Fr ⟨n.n, ⟨.collected rb, #[]⟩ :: n.ds⟩ a fr → Sat κ w (pob rb (.deferred (some [])) :: cs' i) → Q .normal a w)
    (hg : ev fr gx = some (.func (.func gf) fst.toArray cap.toArray) := by rfl) (hc : Cal P gf := by infer_instance) : Co P Q n κ (.rangeFunc gx ps assign body) fr cs := by
  intro a w hf hs
  refine (wpIn_wide (n := 0)).1 (wpIn_rangeFunc (F := Fence.wide) (n := 0) fun fn _ => ?_)
  have hs1 := (hs.pob_new (.deferred (some []))).pob_new (.loop { state := .ready, pending := none, fn, tmps := a.tmps, params := ps, assign, body, defers := w.heap.size })
  have hsz : (w.alloc (.deferred (some []))).heap.size = w.heap.size + 1 := World.size_alloc ..
  rw [hsz] at hs1
  generalize hW : (w.alloc (.deferred (some []))).alloc (.loop { state := .ready, pending := none, fn, tmps := a.tmps, params := ps, assign, body, defers := w.heap.size }) = W1 at *
  have hres : (resolve a.eval (rangeCall gx (w.heap.size + 1)) 0).run P W1 = .ok { target := .fn (.func gf) cap.toArray, args := fst.toArray ++ #[Value.func (.yield (w.heap.size + 1)) #[] #[]] } W1 := by
    have e1 : Array.map a.eval #[Operand.const (Value.func (.yield (w.heap.size + 1)) #[] #[])] = #[Value.func (.yield (w.heap.size + 1)) #[] #[]] := by simp [Act.eval]
    simp only [resolve, hf.eval hg, Deferred.ofValue, Sem.run_pure, e1]
  have hinv : (invoke (.fn (.func gf) cap.toArray) (fst.toArray ++ #[Value.func (.yield (w.heap.size + 1)) #[] #[]])).run P W1 = .ok (.enter gf (fst ++ [Value.func (.yield (w.heap.size + 1)) #[] #[]] ++ cap).toArray) W1 := by
    have e : (fst.toArray ++ #[Value.func (.yield (w.heap.size + 1)) #[] #[]] ++ cap.toArray : Array Value) = (fst ++ [Value.func (.yield (w.heap.size + 1)) #[] #[]] ++ cap).toArray := by simp
    simp only [invoke]
    rw [e, run_enter]
  have henter := run_enterLoop_outer (P := P) (w := w) fn a.tmps ps assign body
  rw [hW] at henter
  have hfr : Fr ⟨n.n, []⟩ ⟨a.tmps, []⟩ fr := ⟨hf.size, rfl, hf.at_⟩
  have hcall := h (w.heap.size + 1) w.heap.size { state := .ready, pending := none, fn, tmps := a.tmps, params := ps, assign, body, defers := w.heap.size } rfl rfl rfl rfl rfl hfr W1 hs1
  refine ⟨w.heap.size + 1, [{ target := .collected w.heap.size, args := #[] }], W1, { target := .fn (.func gf) cap.toArray, args := fst.toArray ++ #[Value.func (.yield (w.heap.size + 1)) #[] #[]] }, W1, gf, (fst ++ [Value.func (.yield (w.heap.size + 1)) #[] #[]] ++ cap).toArray, W1, henter, hres, fun _ _ => trivial, hinv, fun h => (by cases h), (callsIn_wide (n := 0 - 1)).2 ?_⟩
  refine hcall.mono fun e w' ⟨i, hi, he, hs2⟩ => ?_
  subst he
  refine ⟨none, _, run_endLoop hs2.pob_heap (by simp), ?_⟩
  exact k w.heap.size i hi _ _ ⟨hf.size, by simp [hf.defers], hf.at_⟩ hs2.pob_put.rows
/-- A function that ranges over functions, or that defers calls. -/
theorem calls_enterM {f : FuncId} {fn : Func} {c : Code} {args : List Value} {w : World} {R : Ending → World → Prop} (hf : P.funcs[f]? = some fn) (hb : fn.body = some c) (hl : Nat.ble args.length fn.ntmps = true) (hs : Sat κ w cs)
    (h : Co P (bodyPostM Fence.wide 0 P fn R) ⟨fn.ntmps, []⟩ κ c (enumF 0 args) cs) : Calls P f args.toArray w R := by
  have hl' := Nat.le_of_ble_eq_true hl
  refine (callsIn_wide (n := 0)).1 (callsIn_of_wp_marks (F := Fence.wide) hf hb trivial ((wpIn_wide (n := 0)).2 (h _ w ⟨by simp; omega, rfl, fun d v e => ?_⟩ hs)))
  obtain ⟨_, h2⟩ := enumF_look args 0 d v e
  have hlt : d < args.length := by
    rcases Nat.lt_or_ge d args.length with h' | h'
    · exact h'
    · simp [List.getElem?_eq_none h'] at h2
  simp only [Array.getElem?_append]
  simp [hlt]
  simpa [List.getElem?_eq_getElem hlt] using h2
theorem Tr.enterM {f : FuncId} {fn : Func} {c : Code} {args : List Value} {v : Value} {cs' : List HProp} (hf : P.funcs[f]? = some fn) (hb : fn.body = some c) (hl : Nat.ble args.length fn.ntmps = true)
    (h : Co P (bodyPostM Fence.wide 0 P fn fun e w' => e = .returned v ∧ Sat κ w' cs') ⟨fn.ntmps, []⟩ κ c (enumF 0 args) cs) : Tr P f args κ cs v cs' := fun _ hs => calls_enterM hf hb hl hs h
theorem Te.enterM {ι : Type} {f : FuncId} {fn : Func} {c : Code} {args : List Value} {p : ι → Prop} {r : ι → Value} {cs' : ι → List HProp} (hf : P.funcs[f]? = some fn) (hb : fn.body = some c) (hl : Nat.ble args.length fn.ntmps = true)
    (h : Co P (bodyPostM Fence.wide 0 P fn fun e w' => ∃ i, p i ∧ e = .returned (r i) ∧ Sat κ w' (cs' i)) ⟨fn.ntmps, []⟩ κ c (enumF 0 args) cs) : Te P f args κ cs p r cs' := fun _ hs => calls_enterM hf hb hl hs h
instance {fn : Func} {R : Ending → World → Prop} : RetTo .ret (bodyPostM Fence.wide 0 P fn R) (bodyPostM Fence.wide 0 P fn R .ret) := ⟨fun _ _ h => h⟩
/-- A return behind one range over a function: one result. -/
theorem Co.r1M {fn : Func} {R : Ending → World → Prop} {r : ResultVar} {v : Value} {rb : Nat} (k : ∀ w, Sat κ w cs → R (.returned v) w)
    (h : RetTo .ret Q (bodyPostM Fence.wide 0 P fn R .ret) ∧ fn.results = #[r] ∧ Rv P n κ fr cs r v := by refine ⟨?_, ?_, ?_⟩; infer_instance; rfl; first | exact .t | exact .c) (hn : n.ds = [⟨.collected rb, #[]⟩] := by rfl) :
    Co P Q n κ .ret fr (pob rb (.deferred (some [])) :: cs) := by
  refine .ret fun a w hf hs => h.1.out a w ?_
  show LeavesInM Fence.wide 0 P fn a.tmps R a.defers .returning w
  rw [hf.defers, hn]
  refine ⟨by simp, .inl ⟨rb, _, rfl, run_takeDeferred hs.pob_heap, ?_⟩⟩
  have hs2 := (hs.pob_put (o' := .deferred none)).rows
  refine ⟨v, ?_, k _ hs2⟩
  have h2 := h.2.2 a _ hf hs2
  rw [results_eq, h.2.1]; simp [h2]
end
end Go.Proofs.YtpcechnalfaajaaDoor

/- index: an Index as the list that it holds; Len, Get, Put. -/
namespace Go.Proofs.YtpcechnalfaajaaDoor
open Go Go.Proofs

theorem putL_len {key : Num} {v : Int} {l : List KV} (h : Srt l) : (putL key v l).length = l.length + (if (getL key l).isNone then 1 else 0) := by
  induction l with
  | nil => simp [putL, getL]
  | cons x t ih =>
    obtain ⟨k, w⟩ := x
    unfold Srt at h
    obtain ⟨h1, h2⟩ := List.pairwise_cons.1 h
    by_cases e : k = key
    · simp [putL, getL, e]
    · have e2 : getL key ((k, w) :: t) = getL key t := by simp [getL, e]
      rw [e2]
      by_cases hlt : key.toNat < k.toNat
      · have : getL key t = none := getL_no key t fun p hp e => by have := h1 p hp; rw [e] at this; simp at this; omega
        simp [putL, e, hlt, this]
      · simp [putL, e, hlt, ih h2]; omega
def okO (m : List KV) : Option (Tree × Nat) → Prop
  | none => m = []
  | some (t, _) => Ok t ∧ cntT t = m.length ∧ flatT t = m
/-- An Index that holds this. -/
def ixB (bx : Nat) (m : List KV) : HProp := exB (okO m) fun o => ixC bx o m.length []
theorem ixC_app (bx : Nat) (o : Option (Tree × Nat)) (n : Nat) (cs : List HProp) : ixC bx o n [] ++ cs = ixC bx o n cs := by cases o <;> rfl
theorem ix_out {κ : Kap} {w : World} {bx : Nat} {m : List KV} {cs : List HProp} (h : Sat κ w (ixB bx m :: cs)) : ∃ o, okO m o ∧ Sat κ w (ixC bx o m.length cs) := by
  obtain ⟨g, s0, d0, hg⟩ := h.ex
  obtain ⟨o, ho, hx⟩ := exB_out hg
  rw [ixC_app] at hx
  exact ⟨o, ho, h.os, h.tape, h.out, h.ro, g, s0, d0, hx⟩
theorem ix_in {κ : Kap} {w : World} {bx : Nat} {m : List KV} {cs : List HProp} (o : Option (Tree × Nat)) (ho : okO m o) (h : Sat κ w (ixC bx o m.length cs)) : Sat κ w (ixB bx m :: cs) :=
  h.imp fun g hg => exB_in o ho (by rw [ixC_app]; exact hg)
theorem lenB_tr (bx : Nat) (m : List KV) (κ : Kap) (cs : List HProp) : Tr Tryd.prog 38 [.pointer (some ⟨bx, 0, none⟩)] κ (ixB bx m :: cs) (.int .i64 m.length) (ixB bx m :: cs) := by
  intro w hs
  obtain ⟨o, ho, hs⟩ := ix_out hs
  exact (xlen_tr bx o m.length κ cs w hs).mono fun e w' ⟨h1, h2⟩ => ⟨h1, ix_in o ho h2⟩
theorem getX_flat {key : Num} {m : List KV} {o : Option (Tree × Nat)} (ho : okO m o) (hm : Srt m) : getX key o = getL key m := by
  cases o with
  | none => have : m = [] := ho; rw [this]; rfl
  | some tb =>
    obtain ⟨t, b⟩ := tb
    obtain ⟨h1, _, h3⟩ := ho
    show getT key t = _
    rw [getT_flat key t h1 (by rw [h3]; exact hm), h3]
theorem getB_tr (bx : Nat) (m : List KV) (hm : Srt m) (hl : m.length < 800) (key : Num) (κ : Kap) (cs : List HProp) :
    Tr Tryd.prog 47 [.pointer (some ⟨bx, 0, none⟩), .agg (nm key).toArray] κ (ixB bx m :: cs) (.tuple #[.int .i64 ((getL key m).getD 0), .bool (getL key m).isSome]) (ixB bx m :: cs) := by
  intro w hs
  obtain ⟨o, ho, hs⟩ := ix_out hs
  have hok : okX o := by
    cases o with
    | none => trivial
    | some tb => obtain ⟨t, b⟩ := tb; exact ⟨ho.1, by rw [ho.2.1]; omega⟩
  rw [← getX_flat ho hm]
  exact (get_tr bx o hok m.length key κ cs w hs).mono fun e w' ⟨h1, h2⟩ => ⟨h1, ix_in o ho h2⟩
theorem putB_tr (bx : Nat) (m : List KV) (hm : Srt m) (hl : m.length < 700) (key : Num) (v : Int) (κ : Kap) (cs : List HProp) :
    Tr Tryd.prog 61 [.pointer (some ⟨bx, 0, none⟩), .agg (nm key).toArray, .int .i64 v] κ (ixB bx m :: cs) (.tuple #[]) (ixB bx (putL key v m) :: cs) := by
  refine .enter Tryd.func61 rfl rfl ?_
  refine .satx (ι := Option (Tree × Nat)) (p := okO m) (cs' := fun o => ixC bx o m.length cs) (fun w hs => ix_out hs) fun o ho => ?_
  refine .seq ?_
  refine .reg ?_
  refine .bx fun b4 => ?_
  refine .go ?_
  rw [vc_agg]
  refine .jn (ι := Tree × Nat) (fun _ => [(0, .pointer (some ⟨bx, 0, none⟩)), (2, .int .i64 v), (4, .pointer (some ⟨b4, 0, none⟩))])
    (fun q => pts b4 (24, nm key) :: pts bx (86, [.pointer (some ⟨q.2, 0, none⟩), .int .i64 m.length]) :: tn q.1 q.2 :: cs) (fun q => Ok q.1 ∧ cntT q.1 = m.length ∧ flatT q.1 = m) ?_ fun q hq => ?_
  · cases o with
    | none =>
      refine .seq ?_
      refine .reg ?_
      refine .mv ?_
      refine .nc ?_
      refine .fa ?_
      refine .ld ?_
      refine .pnl ?_
      refine .go ?_
      refine .cond rfl (fun hc => ?_) (fun hc => by cases hc)
      have hm0 : m = [] := ho
      subst hm0
      refine .reg ?_
      refine .mv ?_
      refine .bz ?_
      refine .bx fun b14 => ?_
      refine .nc ?_
      refine .fa ?_
      refine .st ?_
      refine .ns 1 84 ?_
      refine .ns 1 3 ?_
      refine .ns 2 24 ?_
      refine .nil fun aa w hf hs => ⟨(.node [] [] [], b14), ⟨.mk rfl (.inl rfl) (fun _ h => by cases h), rfl, rfl⟩, hf.to (by repeat (first | exact trivial | refine ⟨rfl, ?_⟩)), ?_⟩
      have hs := hs.pm 6 [3, 0, 1, 2, 4, 5]
      refine Sat.pm 3 [1, 2, 0] (hs.imp fun g hg => node_in (ks := []) (vs := []) (ts := []) (b := b14) ⟨none, 0, none, 0, none, 0, []⟩ ⟨rfl, fun _ => rfl⟩ hg)
    | some tb =>
      obtain ⟨t, b⟩ := tb
      refine .seq ?_
      refine .reg ?_
      refine .mv ?_
      refine .nc ?_
      refine .fa ?_
      refine .ld ?_
      refine .pnl ?_
      refine .go ?_
      refine .cond rfl (fun hc => by cases hc) (fun hc => ?_)
      refine .skip fun aa w hf hs => ⟨(t, b), ho, hf.to (by repeat (first | exact trivial | refine ⟨rfl, ?_⟩)), hs⟩
  · obtain ⟨t, b⟩ := q
    obtain ⟨hok, hcnt, hflat⟩ := hq
    simp only at *
    obtain ⟨hok', hcnt'⟩ := putT_ok key v t hok
    obtain ⟨hflat', hnew⟩ := putT_flat key v t hok (by rw [hflat]; exact hm)
    rw [hflat] at hflat' hnew
    have hlen := putL_len (key := key) (v := v) hm
    rw [← hnew] at hlen
    rw [hcnt, ← hlen] at hcnt'
    refine .jn (ι := Unit) (fun _ => [(0, .pointer (some ⟨bx, 0, none⟩))])
      (fun _ => pts bx (86, [.pointer (some ⟨b, 0, none⟩), .int .i64 (putL key v m).length]) :: tn (putT key v t).1 b :: cs) (fun _ => True) ?_ fun _ _ => ?_
    · refine .seq ?_
      refine .regD [(bx, 0, [.pointer (some ⟨b, 0, none⟩), .int .i64 m.length]), (b4, 0, nm key)] [] ?_
      refine .mv 0 ?_
      refine .nc 1 ?_
      refine .fa 2 ?_
      refine .ld 3 ?_
      refine .ldw 4 ?_
      refine .mv 5 ?_
      refine .pm 3 [2, 0, 1] ?_
      refine .cl 6 (put_tr (sizeT t) t (Nat.le_refl _) hok (by omega) b key v κ _) ?_
      refine .go ?_
      refine .cond rfl (fun hc => ?_) (fun hc => ?_)
      · refine .reg ?_
        refine .mv ?_
        refine .nc ?_
        refine .fa ?_
        refine .ld ?_
        refine .ad ?_
        refine .nc ?_
        refine .fa ?_
        refine .st ?_
        refine .nil fun aa w hf hs => ⟨(), trivial, hf.to (by repeat (first | exact trivial | refine ⟨rfl, ?_⟩)), ?_⟩
        rw [hc] at hlen
        rw [hlen]
        exact hs.pm 3 [2, 0]
      · refine .skip fun aa w hf hs => ⟨(), trivial, hf.to (by repeat (first | exact trivial | refine ⟨rfl, ?_⟩)), ?_⟩
        rw [hc] at hlen
        rw [hlen]
        exact hs.pm 3 [2, 0]
    · generalize putT key v t = r at *
      obtain ⟨⟨lk, lv, lt⟩, fresh⟩ := r
      cases hok' with
      | mk h1 h2 h3 =>
      simp only at *
      have hcl : lk.length + cntK lt < 900 := by
        have : cntT (.node lk lv lt) = lk.length + cntK lt := by simp only [cntT]
        have h01 : (if fresh = true then 1 else 0) ≤ 1 := by split <;> omega
        rw [← this, hcnt', hlen]; omega
      have hokt : Ok (.node lk lv lt) := .mk h1 h2 h3
      refine .satx (ι := NodeI) (cs' := fun il => pts bx (86, [.pointer (some ⟨b, 0, none⟩), .int .i64 (putL key v m).length]) :: hdr b lk lv il (kidsP lt il.bs ++ cs)) (p := fun il => il.bs.length = lt.length ∧ (lt = [] → il.tp = none)) (fun w hs => by
        obtain ⟨g, sg, dg, h1, h2, s1, s2, d, hc, hr⟩ := hs.ex
        obtain ⟨i, hi, hh⟩ := node_out hr
        exact ⟨i, hi, hs.os, hs.tape, hs.out, hs.ro, g, sg, dg, h1, h2, s1, s2, d, hc, hh⟩) fun il hil => ?_
      refine .seq ?_
      refine .reg ?_
      refine .mv ?_
      refine .nc ?_
      refine .fa ?_
      refine .ld ?_
      refine .nc ?_
      refine .fa ?_
      refine .ld ?_
      refine .ln ?_
      refine .gt ?_
      refine .go ?_
      refine .sat (cs' := pts bx (86, [.pointer (some ⟨b, 0, none⟩), .int .i64 (putL key v m).length]) :: tn (.node lk lv lt) b :: cs) (fun w hs => hs.imp fun g hg => sepL_tail (fun g hg => node_in il hil hg) hg) ?_
      refine .cond rfl (fun h5 => ?_) (fun h5 => ?_)
      · have h5 : 5 < lk.length := by have := of_decide_eq_true h5; omega
        refine .seq ?_
        refine .reg ?_
        refine .mv ?_
        refine .nc ?_
        refine .fa ?_
        refine .ld ?_
        refine .as ?_
        refine .go ?_
        refine .seq ?_
        refine .reg ?_
        refine .mv ?_
        refine .mv ?_
        refine .bs fun b46 => ?_
        refine .bd ?_
        refine .bx fun b48 => ?_
        refine .nc ?_
        refine .fa ?_
        refine .st ?_
        refine .own b46 1 1 rfl ?_
        refine .ns 1 3 ?_
        refine .ns 2 24 ?_
        refine .go ?_
        refine .pm 6 [2, 0, 1, 3, 5, 4] ?_
        refine .sat (cs' := tn (.node [] [] [.node lk lv lt]) b48 :: pts bx (86, [.pointer (some ⟨b48, 0, none⟩), .int .i64 (putL key v m).length]) :: cs) (fun w hs => hs.imp fun g hg => node_in (ks := []) (vs := []) (ts := [.node lk lv lt]) (b := b48) ⟨none, 0, none, 0, some ⟨b46, 0, none⟩, 1, [b]⟩ ⟨rfl, fun h => by cases h⟩ hg) ?_
        refine .reg ?_
        refine .mv ?_
        refine .nc ?_
        refine .fa ?_
        refine .ld ?_
        refine .cl (part_tr [] [] [.node lk lv lt] 0 (by simp) lk lv lt rfl ⟨by omega, by omega⟩ h1 h2 ⟨rfl, rfl⟩ (by simp) b48 κ _) ?_
        refine .e0 fun w hs => ?_
        refine ⟨rfl, ?_⟩
        obtain ⟨o1, o2⟩ := part_ok (ks := []) (vs := []) (ts := [.node lk lv lt]) (j := 0) (lk := lk) (lv := lv) (lt := lt) rfl rfl (by simp) (fun t ht => by simp at ht; rw [ht]; exact hokt) rfl (by omega)
        have o3 := part_flat (ks := []) (vs := []) (ts := [.node lk lv lt]) (j := 0) (lk := lk) (lv := lv) (lt := lt) rfl rfl (by simp) rfl (by omega) h1 h2
        refine ix_in (some (partT (.node [] [] [.node lk lv lt]) 0, b48)) ⟨o1, ?_, ?_⟩ (hs.pm 2 [1, 0])
        · rw [o2, ← hcnt']; simp [cntT, cntK]
        · rw [o3, ← hflat']; simp [flatT, flatK, weave, wr]
      · refine .e0 fun w hs => ?_
        refine ⟨rfl, ix_in (some (.node lk lv lt, b)) ⟨hokt, hcnt', hflat'⟩ hs⟩
end Go.Proofs.YtpcechnalfaajaaDoor

/- What a walk has gone over, in plain Lean. -/
namespace Go.Proofs.YtpcechnalfaajaaDoor
open Go Go.Proofs

def kidF (ts : List Tree) (k : Nat) : List KV := match ts[k]? with
  | some t => flatT t
  | none => []
/-- What lies ahead of the k-th key's kid. -/
def preW (ks : List Num) (vs : List Int) (ts : List Tree) (k : Nat) : List KV := match ts with
  | [] => (ks.take k).zip (vs.take k)
  | t :: ts => wl (ks.take k) (vs.take k) ((flatK (t :: ts)).take k)
theorem preW_zero (ks : List Num) (vs : List Int) (ts : List Tree) : preW ks vs ts 0 = [] := by cases ts <;> simp [preW, wl]
theorem wl_snoc : ∀ (a : List Num) (b : List Int) (c : List (List KV)) (k : Num) (v : Int) (x : List KV), b.length = a.length → c.length = a.length → wl (a ++ [k]) (b ++ [v]) (c ++ [x]) = wl a b c ++ (x ++ [(k, v)]) := by
  intro a
  induction a with
  | nil =>
    intro b c k v x h1 h2
    have : b = [] := List.eq_nil_of_length_eq_zero h1
    have : c = [] := List.eq_nil_of_length_eq_zero h2
    subst_vars
    simp [wl]
  | cons y a ih =>
    intro b c k v x h1 h2
    match b, c, h1, h2 with
    | b :: bs, c :: cs, h1, h2 =>
      have := ih bs cs k v x (by simpa using h1) (by simpa using h2)
      simp only [List.cons_append, wl, this, List.append_assoc]
theorem preW_succ {ks : List Num} {vs : List Int} {ts : List Tree} (hv : vs.length = ks.length) (ht : ts = [] ∨ ts.length = ks.length + 1) {k : Nat} (hk : k < ks.length) :
    preW ks vs ts (k + 1) = preW ks vs ts k ++ (kidF ts k ++ [(ks[k], vs[k]'(by omega))]) := by
  have hkv : k < vs.length := by omega
  cases ts with
  | nil =>
    simp only [preW, kidF]
    rw [List.take_succ_eq_append_getElem hk, List.take_succ_eq_append_getElem hkv, List.zip_append (by simp [hv])]
    simp
  | cons t ts =>
    have hl : (t :: ts).length = ks.length + 1 := by rcases ht with h | h; · cases h
                                                     · exact h
    have hkt : k < (t :: ts).length := by omega
    simp only [preW, kidF]
    rw [List.take_succ_eq_append_getElem hk, List.take_succ_eq_append_getElem hkv, List.take_succ_eq_append_getElem (show k < (flatK (t :: ts)).length by rw [flatK_len]; exact hkt), wl_snoc _ _ _ _ _ _ (by simp [hv]) (by rw [List.length_take, List.length_take, flatK_len]; omega), flatK_get _ _ hkt, List.getElem?_eq_getElem hkt]
theorem preW_end {ks : List Num} {vs : List Int} {ts : List Tree} (hv : vs.length = ks.length) (ht : ts = [] ∨ ts.length = ks.length + 1) : flatT (.node ks vs ts) = preW ks vs ts ks.length ++ kidF ts ks.length := by
  cases ts with
  | nil =>
    simp only [preW, kidF, flat_leaf]
    rw [List.take_length, ← hv, List.take_length]; simp
  | cons t ts =>
    have hl : (t :: ts).length = ks.length + 1 := by rcases ht with h | h; · cases h
                                                     · exact h
    have hkt : ks.length < (t :: ts).length := by omega
    rw [flat_at hv hl ks.length hkt]
    simp only [preW, kidF, List.getElem?_eq_getElem hkt, List.drop_length]
    have : ∀ (b : List Int) (c : List (List KV)), wr [] b c = [] := by intro b c; rfl
    rw [this, List.append_nil]
theorem preW_pre {ks : List Num} {vs : List Int} {ts : List Tree} (hv : vs.length = ks.length) (ht : ts = [] ∨ ts.length = ks.length + 1) {k : Nat} (hk : k ≤ ks.length) : ∃ rest, flatT (.node ks vs ts) = preW ks vs ts k ++ rest := by
  have : ∀ m, k + m ≤ ks.length → ∃ rest, preW ks vs ts (k + m) = preW ks vs ts k ++ rest := by
    intro m
    induction m with
    | zero => intro _; exact ⟨[], by simp⟩
    | succ m ih =>
      intro hm
      obtain ⟨r, hr⟩ := ih (by omega)
      rw [← Nat.add_assoc, preW_succ hv ht (by omega), hr]
      exact ⟨r ++ (kidF ts (k + m) ++ [(ks[k + m], vs[k + m])]), by simp⟩
  obtain ⟨r, hr⟩ := this (ks.length - k) (by omega)
  rw [show k + (ks.length - k) = ks.length by omega] at hr
  rw [preW_end hv ht, hr]
  exact ⟨r ++ kidF ts ks.length, by simp⟩
end Go.Proofs.YtpcechnalfaajaaDoor

/- index: walk, All, Copy. -/
namespace Go.Proofs.YtpcechnalfaajaaDoor
open Go Go.Proofs

def encKV (p : KV) : List Value := [.agg (nm p.1).toArray, .int .i64 p.2]
theorem walk_tr {σ : Type} {κ : Kap} {lp : Nat} {ok : σ → KV → Prop} {C : σ → HProp} {step : σ → KV → σ} (hfeed : Feed Tryd.prog κ lp encKV ok C step) : ∀ (N : Nat) (t : Tree), sizeT t ≤ N → Ok t → cntT t < 900 → ∀ (b : Nat) (s : σ) (cs : List HProp), okF ok step s (flatT t) →
    Tr Tryd.prog 69 [.pointer (some ⟨b, 0, none⟩), .func (.yield lp) #[] #[]] κ (C s :: tn t b :: cs) (.bool true) (C ((flatT t).foldl step s) :: tn t b :: cs) := by
  intro N
  induction N with
  | zero => intro t hN hok; cases hok; simp only [sizeT] at hN; omega
  | succ N ih =>
    intro t hN hok hcnt b s cs hokF
    cases hok with
    | mk hv ht hsub =>
    rename_i ks vs ts
    have hcnt : ks.length + cntK ts < 900 := by simpa only [cntT] using hcnt
    refine .enter Tryd.func69 rfl rfl ?_
    refine .seq ?_
    refine .reg ?_
    refine .as ?_
    refine .go ?_
    refine .seq ?_
    refine .seq ?_
    refine .reg ?_
    refine .mv ?_
    refine .pnl ?_
    refine .go ?_
    refine .cond rfl (fun hc => by cases hc) (fun hc => ?_)   -- t8
    refine .satx (ι := NodeI) (cs' := fun i => C s :: hdr b ks vs i (kidsP ts i.bs ++ cs)) (p := fun i => i.bs.length = ts.length ∧ (ts = [] → i.tp = none)) (fun w hs => by
      obtain ⟨g, sg, dg, h1, h2, s1, s2, d, hc, hr⟩ := hs.ex
      obtain ⟨i, hi, hh⟩ := node_out hr
      exact ⟨i, hi, hs.os, hs.tape, hs.out, hs.ro, g, sg, dg, h1, h2, s1, s2, d, hc, hh⟩) fun i hi => ?_
    refine .go ?_
    refine .seq ?_
    refine .seq ?_
    refine .reg ?_
    refine .mv ?_
    refine .nc ?_
    refine .fa ?_
    refine .ld ?_
    refine .ln ?_
    refine .mv ?_
    refine .go ?_
    refine .block ?_
    refine .lp (fun k : Nat => [(0, .pointer (some ⟨b, 0, none⟩)), (1, .func (.yield lp) #[] #[]), (12, .slice i.kp ks.length i.kc), (13, .int .i64 ks.length), (14, .int .i64 k)])
      (fun k => C ((preW ks vs ts k).foldl step s) :: hdr b ks vs i (kidsP ts i.bs ++ cs)) (fun k => k ≤ ks.length) (fun k => ks.length - k) 0 (by omega) (by repeat (first | exact trivial | refine ⟨rfl, ?_⟩)) (by rw [preW_zero]; rfl) fun k hk => ?_
    refine .seq ?_
    refine .reg ?_
    refine .lt ?_
    refine .go ?_
    refine .seq ?_
    refine .cond rfl (fun hc => ?_) (fun hc => ?_)   -- t15
    · have hlt : k < ks.length := by have : (k : Int) < ks.length := of_decide_eq_true hc; omega
      refine .go ?_
      have hsucc := preW_succ hv ht hlt
      obtain ⟨rst, hrst⟩ := preW_pre hv ht (show k + 1 ≤ ks.length by omega)
      rw [hrst, hsucc, okF_app, okF_app, okF_app] at hokF
      generalize hS : (preW ks vs ts k).foldl step s = s1 at *
      have hgk : getV true (ks.flatMap nm) (((k : Nat) : Int).toNat * 2) 2 = some (.agg (nm ks[k]).toArray) := by
        have := flat_get nm 2 nm_len ks k 0 2 true (.agg (nm ks[k]).toArray) hlt rfl
        simpa using this
      have hgl : getV false (cells .i64 vs) (((k : Nat) : Int).toNat * 1) 1 = some (.int .i64 (vs[k]'(by omega))) := by
        rw [Nat.mul_one]
        have := cells_get .i64 vs k (by omega)
        simpa [List.getD, show k < vs.length by omega] using this
      refine .slp (p := i.kp) (cap := i.kc) (sz := 2) (n0 := ks.length) (by omega) (fun bk hbk _ => ?_)
      refine .slp (p := i.vp) (cap := i.vcap) (sz := 1) (n0 := vs.length) (by omega) (fun bv hbv _ => ?_)
      refine .seq ?_
      refine .block ?_
      refine .seq ?_
      refine .reg ?_
      refine .mv ?_
      unfold hdr
      rw [hbk, hbv]
      refine .ix ?_
      refine .lx hgk ?_
      refine .al fun b6 => ?_
      refine .as ?_
      refine .stw ?_
      refine .go ?_
      refine .seq ?_
      rw [vc_agg]
      by_cases hts : ts = []
      · subst hts
        have hbs : i.bs = [] := List.eq_nil_of_length_eq_zero (by rw [hi.1]; rfl)
        have htp := hi.2 rfl
        have hkf : kidF [] k = [] := rfl
        rw [hkf, List.nil_append] at hsucc
        rw [hkf] at hokF
        have hok1 : ok s1 (ks[k], vs[k]'(by omega)) := hokF.1.2.2.1
        generalize ks[k] = kk at *
        generalize vs[k]'(by omega) = vv at *
        refine .pm 2 [1, 0] ?_
        rw [htp]
        refine .regD [(b, 0, [.slice (some ⟨bk, 0, none⟩) ks.length i.kc, .slice (some ⟨bv, 0, none⟩) vs.length i.vcap, .slice none i.bs.length i.tc]), (b6, 0, nm kk), (bv, 0, cells .i64 vs)] [] ?_
        refine .mv 0 ?_
        refine .nc 1 ?_
        refine .fa 2 ?_
        refine .ld 3 ?_
        refine .nnl 4 ?_
        refine .mv 5 ?_
        refine .caseB 24 rfl (fun h => by cases h) (fun _ => ?_)
        refine .skip 6 ?_
        refine .skip 7 ?_
        refine .skip 8 ?_
        refine .skip 9 ?_
        refine .skip 10 ?_
        refine .skip 11 ?_
        refine .skip 12 ?_
        refine .skip 13 ?_
        refine .skip 14 ?_
        refine .skip 15 ?_
        refine .pf 16 ?_
        refine .mv 17 ?_
        refine .mv 18 ?_
        refine .ldw 19 ?_
        refine .mv 20 ?_
        refine .nc 21 ?_
        refine .fa 22 ?_
        refine .ld 23 ?_
        refine .mv 24 ?_
        refine .ix 25 ?_
        refine .lx 26 hgl ?_
        refine .yd 27 (kk, vv) hfeed hok1 ?_
        refine .nt 28 ?_
        refine .pf 29 ?_
        refine .go ?_
        refine .cond rfl (fun hc => by cases hc) (fun hc => ?_)
        refine .go ?_
        refine .reg ?_
        refine .ad ?_
        refine .mv ?_
        rw [show (k : Int) + 1 = ((k + 1 : Nat) : Int) by omega]
        refine .nil fun aa w hf hs => ⟨k + 1, by omega, by omega, hf.to (by repeat (first | exact trivial | refine ⟨rfl, ?_⟩)), ?_⟩
        rw [hsucc, List.foldl_append, hS]
        exact hs.pm 2 [0]
      · have htl : ts.length = ks.length + 1 := ht.resolve_left hts
        have hkt : k < ts.length := by omega
        have hkb : k < i.bs.length := by omega
        have hkf : kidF ts k = flatT ts[k] := by simp only [kidF, List.getElem?_eq_getElem hkt]
        rw [hkf] at hsucc hokF
        have hokA : okF ok step s1 (flatT ts[k]) := hokF.1.2.1
        have hok1 : ok ((flatT ts[k]).foldl step s1) (ks[k], vs[k]'(by omega)) := hokF.1.2.2.1
        have hsz := sizeK_at ts k hkt
        have hcj := cntK_at ts k hkt
        have hgv : getV false (i.bs.map ptrV) (((k : Nat) : Int).toNat * 1) 1 = some (ptrV i.bs[k]) := by
          rw [Nat.mul_one]; simp [getV, get1_eq, hkb]
        generalize ks[k] = kk at *
        generalize vs[k]'(by omega) = vv at *
        refine .slp (p := i.tp) (cap := i.tc) (sz := 1) (n0 := i.bs.length) (by omega) (fun bt hbt _ => ?_)
        have hsplit := kids_split ts i.bs k hkt hkb
        have hlist : kidsP ts i.bs ++ cs = kidsP (ts.take k) (i.bs.take k) ++ tn ts[k] i.bs[k] :: (kidsP (ts.drop (k + 1)) (i.bs.drop (k + 1)) ++ cs) := by rw [hsplit]; simp
        rw [hlist]
        refine .pm 2 [1, 0] ?_
        refine .sat (cs' := C s1 :: tn ts[k] i.bs[k] :: pts b6 (24, nm kk) :: pts b (130, [.slice (some ⟨bk, 0, none⟩) ks.length i.kc, .slice (some ⟨bv, 0, none⟩) vs.length i.vcap, .slice i.tp i.bs.length i.tc]) :: sl 2 (.slice (some ⟨bk, 0, none⟩) ks.length i.kc) (24, ks.flatMap nm) :: sl 1 (.slice (some ⟨bv, 0, none⟩) vs.length i.vcap) (3, cells .i64 vs) ::
          sl 1 (.slice i.tp i.bs.length i.tc) (84, i.bs.map ptrV) :: (kidsP (ts.take k) (i.bs.take k) ++ (kidsP (ts.drop (k + 1)) (i.bs.drop (k + 1)) ++ cs))) (fun w hs => hs.imp fun g hg => sepL_tail (fun g hg => sepL_out ([_, _, _, _, _] ++ kidsP (ts.take k) (i.bs.take k)) hg) hg) ?_
        rw [hbt]
        refine .regD [(b, 0, [.slice (some ⟨bk, 0, none⟩) ks.length i.kc, .slice (some ⟨bv, 0, none⟩) vs.length i.vcap, .slice (some ⟨bt, 0, none⟩) i.bs.length i.tc]), (b6, 0, nm kk), (bv, 0, cells .i64 vs), (bt, 0, i.bs.map ptrV)] [] ?_
        refine .mv 0 ?_
        refine .nc 1 ?_
        refine .fa 2 ?_
        refine .ld 3 ?_
        refine .nnl 4 ?_
        refine .mv 5 ?_
        refine .caseB 24 rfl (fun _ => ?_) (fun h => by cases h)
        refine .mv 6 ?_
        refine .nc 7 ?_
        refine .fa 8 ?_
        refine .ld 9 ?_
        refine .mv 10 ?_
        refine .ix 11 ?_
        refine .lx 12 hgv ?_
        refine .mv 13 ?_
        refine .cl 14 (ih ts[k] (by simp only [sizeT] at hN; omega) (hsub _ (List.getElem_mem hkt)) (by omega) i.bs[k] s1 _ hokA) ?_
        refine .nt 15 ?_
        refine .pt 16 ?_
        refine .mv 17 ?_
        refine .mv 18 ?_
        refine .ldw 19 ?_
        refine .mv 20 ?_
        refine .nc 21 ?_
        refine .fa 22 ?_
        refine .ld 23 ?_
        refine .mv 24 ?_
        refine .ix 25 ?_
        refine .lx 26 hgl ?_
        refine .yd 27 (kk, vv) hfeed hok1 ?_
        refine .nt 28 ?_
        refine .pf 29 ?_
        refine .go ?_
        refine .cond rfl (fun hc => by cases hc) (fun hc => ?_)
        refine .go ?_
        refine .reg ?_
        refine .ad ?_
        refine .mv ?_
        rw [show (k : Int) + 1 = ((k + 1 : Nat) : Int) by omega]
        refine .nil fun aa w hf hs => ⟨k + 1, by omega, by omega, hf.to (by repeat (first | exact trivial | refine ⟨rfl, ?_⟩)), ?_⟩
        rw [hsucc, List.foldl_append, hS, List.foldl_append]
        have hs := hs.pm 7 [0, 1, 3, 4, 5, 6]
        exact hs.imp fun g hg => sepL_tail (fun g hg => sepL_in ([_, _, _, _] ++ kidsP (ts.take k) (i.bs.take k)) hg) hg
    · have hkl : k = ks.length := by
        have : ¬ (k : Int) < ks.length := of_decide_eq_false hc
        omega
      subst hkl
      refine .xgo ?_
      have hend := preW_end hv ht
      rw [hend, okF_app] at hokF
      generalize hS : (preW ks vs ts ks.length).foldl step s = s1 at *
      by_cases hts : ts = []
      · subst hts
        have htp := hi.2 rfl
        have hkf : kidF [] ks.length = [] := rfl
        rw [hkf, List.append_nil] at hend
        refine .seq ?_
        refine .regD [(b, 0, [.slice i.kp ks.length i.kc, .slice i.vp vs.length i.vcap, .slice i.tp i.bs.length i.tc])] [] ?_
        refine .mv 0 ?_
        refine .nc 1 ?_
        refine .fa 2 ?_
        refine .ld 3 ?_
        refine .nl 4 ?_
        refine .mv 5 ?_
        rw [htp]
        refine .caseB 55 rfl (fun _ => ?_) (fun h => by cases h)
        refine .skip 6 ?_
        refine .skip 7 ?_
        refine .skip 8 ?_
        refine .skip 9 ?_
        refine .skip 10 ?_
        refine .skip 11 ?_
        refine .skip 12 ?_
        refine .skip 13 ?_
        refine .skip 14 ?_
        refine .skip 15 ?_
        refine .skip 16 ?_
        refine .skip 17 ?_
        refine .skip 18 ?_
        refine .pt 19 ?_
        refine .as 20 ?_
        refine .go ?_
        refine .r1 fun w hs => ?_
        refine ⟨rfl, ?_⟩
        rw [hend, hS]
        exact hs.imp fun g hg => sepL_tail (fun g hg => node_in i hi hg) hg
      · have htl : ts.length = ks.length + 1 := ht.resolve_left hts
        have hkt : ks.length < ts.length := by omega
        have hkb : ks.length < i.bs.length := by omega
        have hkf : kidF ts ks.length = flatT ts[ks.length] := by simp only [kidF, List.getElem?_eq_getElem hkt]
        rw [hkf] at hend hokF
        have hsz := sizeK_at ts _ hkt
        have hcj := cntK_at ts _ hkt
        have hgv : getV false (i.bs.map ptrV) (((ks.length : Nat) : Int).toNat * 1) 1 = some (ptrV i.bs[ks.length]) := by
          rw [Nat.mul_one]; simp [getV, get1_eq, hkb]
        refine .slp (p := i.tp) (cap := i.tc) (sz := 1) (n0 := i.bs.length) (by omega) (fun bt hbt _ => ?_)
        have hsplit := kids_split ts i.bs ks.length hkt hkb
        have hlist : kidsP ts i.bs ++ cs = kidsP (ts.take ks.length) (i.bs.take ks.length) ++ tn ts[ks.length] i.bs[ks.length] :: (kidsP (ts.drop (ks.length + 1)) (i.bs.drop (ks.length + 1)) ++ cs) := by rw [hsplit]; simp
        rw [hlist]
        refine .sat (cs' := C s1 :: tn ts[ks.length] i.bs[ks.length] :: pts b (130, [.slice i.kp ks.length i.kc, .slice i.vp vs.length i.vcap, .slice i.tp i.bs.length i.tc]) :: sl 2 (.slice i.kp ks.length i.kc) (24, ks.flatMap nm) :: sl 1 (.slice i.vp vs.length i.vcap) (3, cells .i64 vs) ::
          sl 1 (.slice i.tp i.bs.length i.tc) (84, i.bs.map ptrV) :: (kidsP (ts.take ks.length) (i.bs.take ks.length) ++ (kidsP (ts.drop (ks.length + 1)) (i.bs.drop (ks.length + 1)) ++ cs))) (fun w hs => hs.imp fun g hg => sepL_tail (fun g hg => sepL_out ([_, _, _, _] ++ kidsP (ts.take ks.length) (i.bs.take ks.length)) hg) hg) ?_
        rw [hbt]
        refine .seq ?_
        refine .regD [(b, 0, [.slice i.kp ks.length i.kc, .slice i.vp vs.length i.vcap, .slice (some ⟨bt, 0, none⟩) i.bs.length i.tc]), (bt, 0, i.bs.map ptrV)] [] ?_
        refine .mv 0 ?_
        refine .nc 1 ?_
        refine .fa 2 ?_
        refine .ld 3 ?_
        refine .nl 4 ?_
        refine .mv 5 ?_
        refine .caseB 55 rfl (fun h => by cases h) (fun _ => ?_)
        refine .mv 6 ?_
        refine .nc 7 ?_
        refine .fa 8 ?_
        refine .ld 9 ?_
        refine .mv 10 ?_
        refine .nc 11 ?_
        refine .fa 12 ?_
        refine .ld 13 ?_
        refine .ln 14 ?_
        refine .ix 15 ?_
        refine .lx 16 hgv ?_
        refine .mv 17 ?_
        refine .cl 18 (ih ts[ks.length] (by simp only [sizeT] at hN; omega) (hsub _ (List.getElem_mem hkt)) (by omega) i.bs[ks.length] s1 _ hokF.2) ?_
        refine .pf 19 ?_
        refine .as 20 ?_
        refine .go ?_
        refine .r1 fun w hs => ?_
        refine ⟨rfl, ?_⟩
        rw [hend, List.foldl_append, hS]
        rw [← hbt] at hs
        refine hs.imp fun g hg => sepL_tail (fun g hg => node_in i hi ?_) hg
        rw [hlist]
        exact sepL_in ([_, _, _, _] ++ kidsP (ts.take ks.length) (i.bs.take ks.length)) hg
theorem walknil_tr (yv : Value) (κ : Kap) (cs : List HProp) : Tr Tryd.prog 69 [.pointer none, yv] κ cs (.bool true) cs := by
  refine .enter Tryd.func69 rfl rfl ?_
  refine .seq ?_
  refine .reg ?_
  refine .as ?_
  refine .go ?_
  refine .seq ?_
  refine .seq ?_
  refine .reg ?_
  refine .mv ?_
  refine .pnl ?_
  refine .go ?_
  refine .cond rfl (fun hc => ?_) (fun hc => by cases hc)   -- t8
  refine .seq ?_
  refine .reg ?_
  refine .as ?_
  refine .go ?_
  refine .r1 fun w hs => ?_
  exact ⟨rfl, hs⟩
theorem all_tr {σ : Type} {κ : Kap} {lp : Nat} {ok : σ → KV → Prop} {C : σ → HProp} {step : σ → KV → σ} (hfeed : Feed Tryd.prog κ lp encKV ok C step) (bx : Nat) (m : List KV) (hl : m.length < 900) (s : σ) (cs : List HProp) (hok : okF ok step s m) :
    Tr Tryd.prog 56 [.pointer (some ⟨bx, 0, none⟩), .func (.yield lp) #[] #[]] κ (C s :: ixB bx m :: cs) (.tuple #[]) (C (m.foldl step s) :: ixB bx m :: cs) := by
  refine .enter Tryd.func56 rfl rfl ?_
  refine .satx (ι := Option (Tree × Nat)) (p := okO m) (cs' := fun o => ixC bx o m.length (C s :: cs)) (fun w hs => ix_out (hs.pm 2 [1, 0])) fun o ho => ?_
  cases o with
  | none =>
    have hm : m = [] := ho
    subst hm
    refine .reg ?_
    refine .mv ?_
    refine .nc ?_
    refine .fa ?_
    refine .ld ?_
    refine .mv ?_
    refine .cl (walknil_tr _ κ _) ?_
    refine .e0 fun w hs => ?_
    exact ⟨rfl, (ix_in none rfl hs).pm 2 [1, 0]⟩
  | some tb =>
    obtain ⟨t, b⟩ := tb
    obtain ⟨h1, h2, h3⟩ := ho
    refine .reg ?_
    refine .mv ?_
    refine .nc ?_
    refine .fa ?_
    refine .ld ?_
    refine .mv ?_
    refine .pm 3 [2, 1, 0] ?_
    refine .cl (walk_tr hfeed (sizeT t) t (Nat.le_refl _) h1 (by omega) b s _ (by rw [h3]; exact hok)) ?_
    refine .e0 fun w hs => ?_
    rw [h3] at hs
    exact ⟨rfl, (ix_in (some (t, b)) ⟨h1, h2, h3⟩ (hs.pm 3 [2, 1, 0])).pm 2 [1, 0]⟩
/-- One by one, rising, in a new list. -/
theorem foldl_putL : ∀ (m s : List KV), Srt (s ++ m) → m.foldl (fun s x => putL x.1 x.2 s) s = s ++ m := by
  intro m
  induction m with
  | nil => intro s _; simp
  | cons x m ih =>
    intro s h
    obtain ⟨k, v⟩ := x
    have hs : ∀ p ∈ s, p.1.toNat < k.toNat := by
      unfold Srt at h
      rw [List.pairwise_append] at h
      exact fun p hp => h.2.2 p hp (k, v) (List.mem_cons_self ..)
    have e : putL k v s = s ++ [(k, v)] := by
      have := putL_lt k v s [] hs
      rw [List.append_nil] at this; rw [this]; rfl
    simp only [List.foldl_cons, e]
    rw [ih _ (by rw [List.append_assoc]; exact h)]
    simp
theorem okF_putL : ∀ (m s : List KV), Srt (s ++ m) → s.length + m.length < 700 → okF (fun (s : List KV) _ => Srt s ∧ s.length < 700) (fun s x => putL x.1 x.2 s) s m := by
  intro m
  induction m with
  | nil => intro s _ _; trivial
  | cons x m ih =>
    intro s h hl
    obtain ⟨k, v⟩ := x
    have h' := h
    unfold Srt at h'
    rw [List.pairwise_append] at h'
    have hs : ∀ p ∈ s, p.1.toNat < k.toNat := fun p hp => h'.2.2 p hp (k, v) (List.mem_cons_self ..)
    have e : putL k v s = s ++ [(k, v)] := by
      have := putL_lt k v s [] hs
      rw [List.append_nil] at this; rw [this]; rfl
    refine ⟨⟨h'.1, by simp at hl; omega⟩, ?_⟩
    show okF _ _ (putL k v s) m
    rw [e]
    exact ih _ (by rw [List.append_assoc]; exact h) (by simp at hl ⊢; omega)
theorem copyX_tr (bx : Nat) (m : List KV) (hm : Srt m) (hl : m.length < 700) (κ : Kap) (cs : List HProp) :
    Te Tryd.prog 58 [.pointer (some ⟨bx, 0, none⟩)] κ (ixB bx m :: cs) (fun _ : Nat => True) (fun b => .pointer (some ⟨b, 0, none⟩)) (fun b => ixB b m :: ixB bx m :: cs) := by
  refine .enterM Tryd.func58 rfl rfl ?_
  refine .seq ?_
  refine .reg ?_
  refine .as ?_
  refine .go ?_
  refine .seq ?_
  refine .reg ?_
  refine .bz ?_
  refine .bx fun b7 => ?_
  refine .al fun b3 => ?_
  refine .st ?_
  refine .sat (cs' := ixB b7 [] :: pts b3 (87, [.pointer (some ⟨b7, 0, none⟩)]) :: ixB bx m :: cs) (fun w hs => ix_in none rfl (hs.pm 2 [1, 0])) ?_
  refine .go ?_
  refine .seq ?_
  refine .seq ?_
  refine .reg ?_
  refine .mv ?_
  refine .mf ?_
  refine .go ?_
  refine .block ?_
  refine .rf (p := fun _ : Unit => True) (v := .tuple #[]) (cs' := fun _ => ixB b7 m :: pts b3 (87, [.pointer (some ⟨b7, 0, none⟩)]) :: ixB bx m :: cs) (fun lp rb r h1 h2 h3 h4 h5 hf => ?_) (fun rb _ _ => ?_)
  · have hfeed : Feed Tryd.prog κ lp encKV (fun (s : List KV) _ => Srt s ∧ s.length < 700) (fun s => exB (fun _ : Unit => True) fun _ => pob lp (.loop r) :: [ixB b7 s, pts b3 (87, [.pointer (some ⟨b7, 0, none⟩)])]) (fun s x => putL x.1 x.2 s) := by
      refine feed_of (n := ⟨_, []⟩) h1 h2 (fun x => by rw [h3]; rfl) (fun _ (_ : Unit) => True) (fun s _ => [ixB b7 s, pts b3 (87, [.pointer (some ⟨b7, 0, none⟩)])]) rfl (by rw [h3]; decide) hf
        (ι2 := Nat × KV × List KV) (fun j => [(3, .pointer (some ⟨b3, 0, none⟩)), (4, .pointer (some ⟨j.1, 0, none⟩)), (5, .int .i64 j.2.1.2)]) (fun j => [ixB b7 j.2.2, pts j.1 (24, nm j.2.1.1), pts b3 (87, [.pointer (some ⟨b7, 0, none⟩)])]) (fun s _ x j => j.2.1 = x ∧ j.2.2 = s) ?_ ?_
      · intro s _ x F hok _
        rw [h3, h4]
        simp only [List.cons_append, List.nil_append]
        refine .seq ?_
        refine .reg ?_
        refine .al fun b4 => ?_
        refine .stw ?_
        refine .goR ?_
        rw [vc_agg]
        refine .reg ?_
        refine .as ?_
        exact .nil fun aa w hf hs => ⟨(b4, x, s), ⟨rfl, rfl⟩, hf.to (by repeat (first | exact trivial | refine ⟨rfl, ?_⟩)), hs.pm 4 [1, 2, 0, 3]⟩
      · intro s _ x j F hok _ hj
        obtain ⟨b4, y, s'⟩ := j
        obtain ⟨h6, h7⟩ := hj
        simp only at h6 h7
        subst h6 h7
        rw [h5]
        simp only [List.cons_append, List.nil_append]
        refine .block ?_
        refine .reg ?_
        refine .ld ?_
        refine .ldw ?_
        refine .mv ?_
        refine .pm 4 [1, 0, 2, 3] ?_
        refine .cl (putB_tr b7 s' hok.1 hok.2 y.1 y.2 κ _) ?_
        exact .nil fun aa w hf hs => ⟨(), trivial, hs.pm 4 [1, 0, 3]⟩
    have hfold := foldl_putL m [] hm
    rw [List.nil_append] at hfold
    intro w hs
    have hs2 : Sat κ w (exB (fun _ : Unit => True) (fun _ => pob lp (.loop r) :: [ixB b7 [], pts b3 (87, [.pointer (some ⟨b7, 0, none⟩)])]) :: ixB bx m :: pob rb (.deferred (some [])) :: cs) :=
      (hs.pm 5 [0, 2, 3, 4, 1]).imp fun g hg => exB_in () trivial hg
    refine (all_tr hfeed bx m (by omega) [] _ (okF_putL m [] hm (by simpa using hl)) w hs2).mono fun e w' ⟨he, hs3⟩ => ⟨(), trivial, he, ?_⟩
    rw [hfold] at hs3
    obtain ⟨g, s0, d0, hg⟩ := hs3.ex
    obtain ⟨_, _, hx⟩ := exB_out hg
    have hs4 : Sat κ w' (pob lp (.loop r) :: ixB b7 m :: pts b3 (87, [.pointer (some ⟨b7, 0, none⟩)]) :: ixB bx m :: pob rb (.deferred (some [])) :: cs) := ⟨hs3.os, hs3.tape, hs3.out, hs3.ro, g, s0, d0, hx⟩
    exact hs4.pm 5 [0, 4, 1, 2, 3]
  · show Co _ _ _ _ _ _ _
    refine .seq ?_
    refine .reg ?_
    refine .ld ?_
    refine .as ?_
    refine .go ?_
    refine .r1M fun w hs => ?_
    exact ⟨b7, trivial, rfl, hs.pm 3 [0, 2]⟩
end Go.Proofs.YtpcechnalfaajaaDoor

/- The engine in plain Lean (layer 11): accounts, transfers, rows. -/
namespace Go.Proofs.YtpcechnalfaajaaDoor
open Go Go.Proofs

/-- A number's place. -/
def posN (key : Num) : List Num → Option Nat
  | [] => none
  | k :: t => if k = key then some 0 else (posN key t).map (· + 1)
def zeroH : Hash := ⟨List.replicate 32 0, by simp⟩
def zA : Account := ⟨0, 0, 0, 0, 0, 0, 0, 0, 0, zeroH⟩
def zT : Transfer := ⟨0, 0, 0, 0, 0, 0, 0, 0, 0, 0, 0⟩
structure Eng where
  acc : List Account
  trs : List Transfer
  rws : List (List Row)
  time : Int
  now : Int
  deriving DecidableEq
namespace Eng
def empty : Eng := ⟨[], [], [], 0, 0⟩
def ids (e : Eng) : List Num := e.acc.map (·.id)
def tids (e : Eng) : List Num := e.trs.map (·.id)
def account (e : Eng) (id : Num) : Option Account := (posN id e.ids).map fun i => e.acc.getD i zA
def transfer (e : Eng) (id : Num) : Option Transfer := (posN id e.tids).map fun i => e.trs.getD i zT
def rowsOf (e : Eng) (id : Num) : Option (List Row) := (posN id e.ids).map fun i => e.rws.getD i []
/-- An account has a row more. -/
def row1 (e : Eng) (id : Num) (event : Int) (amount : Num) (i : Nat) : Eng :=
  let a := e.acc.getD i zA
  let l := e.rws.getD i [] ++ [⟨id, e.time, event, amount, a.dp, a.dq, a.cp, a.cq⟩]
  { e with acc := e.acc.set i { a with rows := l.length, root := rootN (l.map leafR) }, rws := e.rws.set i l }
def row (e : Eng) (id : Num) (event : Int) (amount : Num) (l : List Nat) : Eng := l.foldl (fun e i => e.row1 id event amount i) e
def add (e : Eng) (t : Transfer) (amount : Num) (d c : Nat) : Eng :=
  let t := { t with time := e.time + 1, tick := e.now }
  ({ e with time := e.time + 1, trs := e.trs ++ [t] }).row t.id (bclr t.flags 1) amount [d, c]
def findRow (at_ : Num) : List Row → Num
  | [] => 0
  | r :: t => if r.tr = at_ ∧ r.event ≥ 0 then r.amount else findRow at_ t
/-- The account in whose rows a transfer's amount stands. -/
def payer (e : Eng) (t : Transfer) : Num := if t.pid = 0 then t.debit else ((e.transfer t.pid).getD zT).debit
def amount (e : Eng) (id : Num) : Num := match e.transfer id with
  | none => 0
  | some t => findRow t.id ((e.rowsOf (e.payer t)).getD [])
def release (e : Eng) (p : Transfer) (held : Num) (d c : Nat) (nothing : Bool) : Eng :=
  let x := e.acc.getD d zA
  let e := { e with acc := e.acc.set d { x with dp := subN x.dp held } }
  let y := e.acc.getD c zA
  let e := { e with acc := e.acc.set c { y with cp := subN y.cp held } }
  let x := e.acc.getD d zA
  let e := if nothing = true ∧ band p.flags 64 ≠ 0 then { e with acc := e.acc.set d { x with flags := bclr x.flags 8 } } else e
  let y := e.acc.getD c zA
  if nothing = true ∧ band p.flags 128 ≠ 0 then { e with acc := e.acc.set c { y with flags := bclr y.flags 8 } } else e
def makeAccount (e : Eng) (a : Account) : Eng × Int :=
  if ruleA a ≠ 0 then (e, ruleA a) else
  match e.account a.id with
  | some old => (e, againA a old)
  | none => if e.acc.length = 32 then (e, 31) else
    ({ e with time := e.time + 1, acc := e.acc ++ [⟨a.id, a.ledger, bclr a.flags 1, 0, 0, 0, 0, e.time + 1, 0, rootN []⟩], rws := e.rws ++ [[]] }, 0)
/-- The amount of a first transfer. -/
def firstAmount (t : Transfer) (x y : Account) : Num :=
  let n := if band t.flags 48 ≠ 0 ∧ t.amount = 0 then BitVec.allOnes 128 else t.amount
  let n := if band t.flags 16 ≠ 0 then leastN [n, roomN x true] else n
  if band t.flags 32 ≠ 0 then leastN [n, roomN y false] else n
def first (e : Eng) (t : Transfer) (d c : Nat) : Eng × Int :=
  let x0 := e.acc.getD d zA
  let y0 := e.acc.getD c zA
  let n := firstAmount t x0 y0
  let pend : Bool := decide (band t.flags 2 ≠ 0)
  let x := if pend then { x0 with dp := addN [x0.dp, n] } else { x0 with dq := addN [x0.dq, n] }
  let y := if pend then { y0 with cp := addN [y0.cp, n] } else { y0 with cq := addN [y0.cq, n] }
  let ok := if pend then fitN [x0.dp, n] else fitN [x0.dq, n]
  let is := if pend then fitN [y0.cp, n] else fitN [y0.cq, n]
  if ok = false ∨ is = false ∨ fitN [x.dp, x.dq] = false ∨ fitN [y.cp, y.cq] = false then (e, 28)
  else if withinA x = false then (e, 29)
  else if withinA y = false then (e, 30)
  else
    let x := if band t.flags 64 ≠ 0 then { x with flags := bor x.flags 8 } else x
    let y := if band t.flags 128 ≠ 0 then { y with flags := bor y.flags 8 } else y
    (({ e with acc := (e.acc.set d x).set c y }).add { t with state := if pend then 1 else 0 } n d c, 0)
/-- A pending transfer is posted, or voided: is something wrong? -/
def secondBad (t p : Transfer) (held : Num) : Int :=
  if band p.flags 2 = 0 then 21
  else if p.state = 2 ∨ p.state = 3 then 22
  else if p.state = 4 then 23
  else if (t.debit ≠ 0 ∧ t.debit ≠ p.debit) ∨ (t.credit ≠ 0 ∧ t.credit ≠ p.credit) ∨ (t.ledger ≠ 0 ∧ t.ledger ≠ p.ledger) then 25
  else
    let n := if t.amount = 0 then held else t.amount
    if held.toNat < n.toNat ∨ (n.toNat < held.toNat ∧ band t.flags 8 ≠ 0) then 24 else 0
def post (e : Eng) (n : Num) (d c : Nat) : Eng :=
  let x := e.acc.getD d zA
  let e := { e with acc := e.acc.set d { x with dq := addN [x.dq, n] } }
  let y := e.acc.getD c zA
  { e with acc := e.acc.set c { y with cq := addN [y.cq, n] } }
def setState (e : Eng) (i : Nat) (s : Int) : Eng := { e with trs := e.trs.set i { e.trs.getD i zT with state := s } }
def second (e : Eng) (t : Transfer) : Eng × Int :=
  match posN t.pid e.tids with
  | none => (e, 20)
  | some i =>
    let p := e.trs.getD i zT
    let held := e.amount p.id
    if secondBad t p held ≠ 0 then (e, secondBad t p held) else
    let n := if t.amount = 0 then held else t.amount
    let d := (posN p.debit e.ids).getD 0
    let c := (posN p.credit e.ids).getD 0
    let e := (e.release p held d c (decide (band t.flags 8 ≠ 0))).setState i 3
    let e := if band t.flags 4 ≠ 0 then (e.setState i 2).post n d c else e
    (e.add { t with state := 0 } n d c, 0)
def makeTransfer (e : Eng) (t : Transfer) : Eng × Int :=
  if ruleT t ≠ 0 then (e, ruleT t) else
  match e.transfer t.id with
  | some old => (e, againT t old)
  | none =>
    if e.trs.length = 256 then (e, 31) else
    if t.pid ≠ 0 then e.second t else
    match posN t.debit e.ids with
    | none => (e, 15)
    | some d => match posN t.credit e.ids with
      | none => (e, 16)
      | some c =>
        if c = d then (e, 16)
        else if (e.acc.getD d zA).ledger ≠ t.ledger ∨ (e.acc.getD c zA).ledger ≠ t.ledger then (e, 17)
        else if band (e.acc.getD d zA).flags 8 ≠ 0 then (e, 26)
        else if band (e.acc.getD c zA).flags 8 ≠ 0 then (e, 27)
        else e.first t d c
/-- What waited too long comes to nothing. -/
def expire1 (e : Eng) (i : Nat) : Eng :=
  let p := e.trs.getD i zT
  if p.state ≠ 1 ∨ p.timeout ≤ 0 ∨ e.now - p.tick < p.timeout then e else
  let held := e.amount p.id
  let d := (posN p.debit e.ids).getD 0
  let c := (posN p.credit e.ids).getD 0
  let e := (e.release p held d c true).setState i 4
  ({ e with time := e.time + 1 }).row p.id (-1) held [d, c]
def tick (e : Eng) (now : Int) : Eng := (List.range e.trs.length).foldl expire1 { e with now := now }
/-- Events of one kind, as the batch goes over them. -/
structure Evs where
  n : Nat
  flags : Nat → Int
  do_ : Eng → Nat → Eng × Int
/-- The events of a chain till one fails. -/
def run (ev : Evs) : Nat → Nat → Eng → Eng × Option (Nat × Int)
  | 0, _, e => (e, none)
  | m + 1, i, e => if (ev.do_ e i).2 = 0 then run ev m (i + 1) (ev.do_ e i).1 else ((ev.do_ e i).1, some (i, (ev.do_ e i).2))
def results (lo m bad : Nat) (code : Int) : List (Int × Int) := (List.range m).map fun (k : Nat) => (((lo + k : Nat) : Int), if lo + k = bad then code else 1)
/-- The events from one on up to another one, that one too. -/
def chain (ev : Evs) (lo hi : Nat) (e : Eng) : Eng × List (Int × Int) :=
  let m := min (hi + 1) ev.n - lo
  match run ev m lo e with
  | (_, some (bad, code)) => (e, results lo m bad code)
  | (e', none) => if hi = ev.n then (e, results lo m (ev.n - 1) 2) else (e', [])
def chainEnd (ev : Evs) : Nat → Nat → Nat
  | 0, i => i
  | m + 1, i => if band (ev.flags i) 1 ≠ 0 then chainEnd ev m (i + 1) else i
def batch (ev : Evs) : Nat → Nat → Eng → Eng × List (Int × Int)
  | 0, _, e => (e, [])
  | f + 1, i, e =>
    if i < ev.n then
      let hi := chainEnd ev (ev.n - i) i
      let r := chain ev i hi e
      let s := batch ev f (hi + 1) r.1
      (s.1, r.2 ++ s.2)
    else (e, [])
def evA (l : List Account) : Evs := ⟨l.length, fun i => (l.getD i zA).flags, fun e i => e.makeAccount (l.getD i zA)⟩
def evT (l : List Transfer) : Evs := ⟨l.length, fun i => (l.getD i zT).flags, fun e i => e.makeTransfer (l.getD i zT)⟩
def batchA (e : Eng) (l : List Account) : Eng × List (Int × Int) := batch (evA l) l.length 0 e
def batchT (e : Eng) (l : List Transfer) : Eng × List (Int × Int) := batch (evT l) l.length 0 e
end Eng
end Go.Proofs.YtpcechnalfaajaaDoor

/- An engine in memory. -/
namespace Go.Proofs.YtpcechnalfaajaaDoor
open Go Go.Proofs

/-- The places of numbers, as an index holds them. -/
def idxG : List KV → List Num → Nat → List KV
  | m, [], _ => m
  | m, k :: t, i => idxG (putL k (i : Int) m) t (i + 1)
def idxOf (ids : List Num) : List KV := idxG [] ids 0
theorem idxG_snoc : ∀ (ids : List Num) (m : List KV) (i : Nat) (k : Num), idxG m (ids ++ [k]) i = putL k ((i + ids.length : Nat) : Int) (idxG m ids i) := by
  intro ids
  induction ids with
  | nil => intro m i k; rfl
  | cons x t ih => intro m i k; simp only [List.cons_append, idxG, ih, List.length_cons]; congr 2; omega
theorem idxOf_snoc (ids : List Num) (k : Num) : idxOf (ids ++ [k]) = putL k (ids.length : Int) (idxOf ids) := by
  have := idxG_snoc ids [] 0 k
  rw [Nat.zero_add] at this; exact this
theorem getL_put {key k : Num} {v : Int} {m : List KV} (h : Srt m) : getL key (putL k v m) = if k = key then some v else getL key m := by
  induction m with
  | nil => simp [putL, getL]
  | cons x t ih =>
    obtain ⟨k', w⟩ := x
    unfold Srt at h
    obtain ⟨h1, h2⟩ := List.pairwise_cons.1 h
    simp only [putL]
    by_cases e : k' = k
    · subst e
      simp only [if_true, getL]
      split <;> rfl
    · rw [if_neg e]
      by_cases hlt : k.toNat < k'.toNat
      · rw [if_pos hlt]; simp only [getL]
      · rw [if_neg hlt]
        simp only [getL, ih h2]
        by_cases e1 : k' = key
        · rw [if_pos e1, if_neg (fun e2 => e (e1.trans e2.symm)), if_pos e1]
        · rw [if_neg e1, if_neg e1]
theorem posN_app (key : Num) : ∀ (a b : List Num), posN key (a ++ b) = (posN key a).or ((posN key b).map (· + a.length)) := by
  intro a b
  induction a with
  | nil => cases h : posN key b <;> simp [posN, h]
  | cons k t ih =>
    simp only [List.cons_append, posN]
    by_cases e : k = key
    · simp [e]
    · rw [if_neg e, if_neg e, ih]
      cases h1 : posN key t <;> cases h2 : posN key b <;> simp <;> omega
theorem posN_some {key : Num} : ∀ {l : List Num} {i : Nat}, posN key l = some i → ∃ h : i < l.length, l[i] = key := by
  intro l
  induction l with
  | nil => intro i h; cases h
  | cons k t ih =>
    intro i h
    simp only [posN] at h
    by_cases e : k = key
    · rw [if_pos e] at h; cases h; exact ⟨by simp, e⟩
    · rw [if_neg e] at h
      cases h1 : posN key t with
      | none => rw [h1] at h; cases h
      | some j =>
        rw [h1] at h; simp at h; subst h
        obtain ⟨h2, h3⟩ := ih h1
        exact ⟨by simpa using h2, by simpa using h3⟩
theorem posN_none {key : Num} : ∀ {l : List Num}, posN key l = none ↔ key ∉ l := by
  intro l
  induction l with
  | nil => simp [posN]
  | cons k t ih =>
    simp only [posN]
    by_cases e : k = key
    · simp [e]
    · rw [if_neg e, Option.map_eq_none_iff, ih]
      simp [Ne.symm e]
theorem idxOf_spec : ∀ (n : Nat) (ids : List Num), ids.length = n → ids.Nodup → Srt (idxOf ids) ∧ (idxOf ids).length = ids.length ∧ ∀ key, getL key (idxOf ids) = (posN key ids).map fun (i : Nat) => (i : Int) := by
  intro n
  induction n with
  | zero =>
    intro ids hl _
    have : ids = [] := List.eq_nil_of_length_eq_zero hl
    subst this
    exact ⟨List.Pairwise.nil, rfl, fun key => rfl⟩
  | succ n ih =>
    intro ids hl hn
    have hne : ids ≠ [] := fun h => by subst h; simp at hl
    obtain ⟨l, k, rfl⟩ : ∃ l k, ids = l ++ [k] := ⟨ids.dropLast, ids.getLast hne, (List.dropLast_concat_getLast hne).symm⟩
    have hnl : l.Nodup := (List.nodup_append.1 hn).1
    have hk : k ∉ l := fun h => (List.nodup_append.1 hn).2.2 k h k (by simp) rfl
    obtain ⟨h1, h2, h3⟩ := ih l (by simpa using hl) hnl
    rw [idxOf_snoc]
    refine ⟨putL_srt h1, ?_, fun key => ?_⟩
    · rw [putL_len h1, h3, posN_none.2 hk, h2]; simp
    · rw [getL_put h1, h3, posN_app]
      by_cases e : k = key
      · subst e; simp [posN_none.2 hk, posN]
      · simp [e, posN]
theorem idx_srt {ids : List Num} (h : ids.Nodup) : Srt (idxOf ids) := (idxOf_spec _ ids rfl h).1
theorem idx_len {ids : List Num} (h : ids.Nodup) : (idxOf ids).length = ids.length := (idxOf_spec _ ids rfl h).2.1
theorem idx_get {ids : List Num} (h : ids.Nodup) (key : Num) : getL key (idxOf ids) = (posN key ids).map fun (i : Nat) => (i : Int) := (idxOf_spec _ ids rfl h).2.2 key

/-- An account's list of rows. -/
def lstB (b : Nat) (rs : List Row) : HProp := exB (fun _ : LstI => True) fun i => lstC b rs i []
theorem lst_out {κ : Kap} {w : World} {b : Nat} {rs : List Row} {cs : List HProp} (h : Sat κ w (lstB b rs :: cs)) : ∃ i : LstI, True ∧ Sat κ w (lstC b rs i cs) := by
  obtain ⟨g, s0, d0, hg⟩ := h.ex
  obtain ⟨i, _, hx⟩ := exB_out hg
  exact ⟨i, trivial, h.os, h.tape, h.out, h.ro, g, s0, d0, hx⟩
theorem lst_in {κ : Kap} {w : World} {b : Nat} {rs : List Row} {cs : List HProp} (i : LstI) (h : Sat κ w (lstC b rs i cs)) : Sat κ w (lstB b rs :: cs) := h.imp fun _ hg => exB_in i trivial hg
theorem raddB_tr (b : Nat) (rs : List Row) (hl : rs.length < 100000) (r : Row) (hr : -1000000000000 ≤ r.event ∧ r.event ≤ 1000000000000) (κ : Kap) (hκ : Laid κ) (cs : List HProp) :
    Tr Tryd.prog 77 [.pointer (some ⟨b, 0, none⟩), .agg (encR r).toArray] κ (lstB b rs :: cs) (.tuple #[]) (lstB b (rs ++ [r]) :: cs) := by
  intro w hs
  obtain ⟨i, _, hs⟩ := lst_out hs
  exact (radd_tr b rs hl r hr i κ hκ cs w hs).mono fun e w' ⟨i', _, h1, h2⟩ => ⟨h1, lst_in i' h2⟩
theorem rlenB_tr (b : Nat) (rs : List Row) (κ : Kap) (cs : List HProp) : Tr Tryd.prog 51 [.pointer (some ⟨b, 0, none⟩)] κ (lstB b rs :: cs) (.int .i64 rs.length) (lstB b rs :: cs) := by
  intro w hs
  obtain ⟨i, _, hs⟩ := lst_out hs
  exact (rlen_tr b rs i κ cs w hs).mono fun e w' ⟨h1, h2⟩ => ⟨h1, lst_in i h2⟩
theorem ratB_tr (b : Nat) (rs : List Row) (k : Nat) (hk : k < rs.length) (hl : rs.length < 100000) (κ : Kap) (cs : List HProp) : Tr Tryd.prog 32 [.pointer (some ⟨b, 0, none⟩), .int .i64 k] κ (lstB b rs :: cs) (.agg (encR rs[k]).toArray) (lstB b rs :: cs) := by
  intro w hs
  obtain ⟨i, _, hs⟩ := lst_out hs
  exact (rat_tr b rs k hk hl i κ cs w hs).mono fun e w' ⟨h1, h2⟩ => ⟨h1, lst_in i h2⟩
theorem rrootB_tr (b : Nat) (rs : List Row) (hl : rs.length < 100000) (κ : Kap) (hκ : Laid κ) (cs : List HProp) : Tr Tryd.prog 62 [.pointer (some ⟨b, 0, none⟩), .pointer none] κ (lstB b rs :: cs) (.agg (hcells (rootN (rs.map leafR))).toArray) (lstB b rs :: cs) := by
  intro w hs
  obtain ⟨i, _, hs⟩ := lst_out hs
  exact (rroot_tr b rs hl i κ hκ cs w hs).mono fun e w' ⟨h1, h2⟩ => ⟨h1, lst_in i h2⟩
theorem rcopyB_tr (b : Nat) (rs : List Row) (hl : rs.length < 100000) (κ : Kap) (cs : List HProp) : Te Tryd.prog 57 [.pointer (some ⟨b, 0, none⟩)] κ (lstB b rs :: cs) (fun _ : Nat => True) (fun b' => .pointer (some ⟨b', 0, none⟩)) (fun b' => lstB b' rs :: lstB b rs :: cs) := by
  intro w hs
  obtain ⟨i, _, hs⟩ := lst_out hs
  exact (rcopy_tr b rs hl i κ cs w hs).mono fun e w' ⟨⟨b', i'⟩, _, h1, h2⟩ => ⟨b', trivial, h1, by
    have h3 := lst_in (cs := lstC b rs i cs) i' h2
    have h4 : Sat κ w' (lstC b rs i (lstB b' rs :: cs)) := h3.imp fun g hg => sepL_in [_, _, _] hg
    exact (lst_in i h4).pm 2 [1, 0]⟩

/-- The lists of all accounts. -/
def rowsP : List (List Row) → List Nat → List HProp
  | r :: rs, b :: bs => lstB b r :: rowsP rs bs
  | _, _ => []
theorem rowsP_app : ∀ (a : List (List Row)) (c : List Nat) (b : List (List Row)) (d : List Nat), a.length = c.length → rowsP (a ++ b) (c ++ d) = rowsP a c ++ rowsP b d := by
  intro a
  induction a with
  | nil => intro c b d h; have : c = [] := List.eq_nil_of_length_eq_zero h.symm; subst this; rfl
  | cons t a ih =>
    intro c b d h
    cases c with
    | nil => simp at h
    | cons x c => simp only [List.cons_append, rowsP, ih c b d (by simpa using h)]
theorem rowsP_at (rs : List (List Row)) (bs : List Nat) (j : Nat) (h : j < rs.length) (h' : bs.length = rs.length) :
    rowsP rs bs = rowsP (rs.take j) (bs.take j) ++ lstB (bs[j]'(by omega)) rs[j] :: rowsP (rs.drop (j + 1)) (bs.drop (j + 1)) := by
  have e1 : rs = rs.take j ++ (rs[j] :: rs.drop (j + 1)) := by rw [← List.drop_eq_getElem_cons h, List.take_append_drop]
  have e2 : bs = bs.take j ++ (bs[j]'(by omega) :: bs.drop (j + 1)) := by rw [← List.drop_eq_getElem_cons (by omega), List.take_append_drop]
  conv => lhs; rw [e1, e2]
  rw [rowsP_app _ _ _ _ (by simp; omega)]
  rfl
structure EngI where
  pa : Option Addr
  ca : Nat
  pt : Option Addr
  ct : Nat
  pr : Option Addr
  cr : Nat
  bA : Nat
  bI : Nat
  lb : List Nat
/-- An engine's own rows. -/
abbrev engH (b : Nat) (e : Eng) (i : EngI) (cs : List HProp) : List HProp :=
  pts b (92, [.slice i.pa e.acc.length i.ca, .slice i.pt e.trs.length i.ct, .slice i.pr i.lb.length i.cr, ptrV i.bA, ptrV i.bI, .int .i64 e.time, .int .i64 e.now]) ::
  sl 46 (.slice i.pa e.acc.length i.ca) (37, e.acc.flatMap encA) :: sl 16 (.slice i.pt e.trs.length i.ct) (43, e.trs.flatMap encT) :: sl 1 (.slice i.pr i.lb.length i.cr) (72, i.lb.map ptrV) ::
  ixB i.bA (idxOf e.ids) :: ixB i.bI (idxOf e.tids) :: cs
/-- An engine, opened. -/
abbrev engO (b : Nat) (e : Eng) (i : EngI) (cs : List HProp) : List HProp := engH b e i (rowsP e.rws i.lb ++ cs)
def engB (b : Nat) (e : Eng) : HProp := exB (fun i : EngI => i.lb.length = e.rws.length) fun i => engO b e i []
theorem eng_out {κ : Kap} {w : World} {b : Nat} {e : Eng} {cs : List HProp} (h : Sat κ w (engB b e :: cs)) : ∃ i : EngI, i.lb.length = e.rws.length ∧ Sat κ w (engO b e i cs) := by
  obtain ⟨g, s0, d0, hg⟩ := h.ex
  obtain ⟨i, hi, hx⟩ := exB_out hg
  refine ⟨i, hi, h.os, h.tape, h.out, h.ro, g, s0, d0, ?_⟩
  simpa [engO, engH] using hx
theorem eng_in {κ : Kap} {w : World} {b : Nat} {e : Eng} {cs : List HProp} (i : EngI) (hi : i.lb.length = e.rws.length) (h : Sat κ w (engO b e i cs)) : Sat κ w (engB b e :: cs) :=
  h.imp fun g hg => exB_in i hi (by simpa [engO, engH] using hg)
/-- One list taken out. -/
theorem eng_list {κ : Kap} {w : World} {b : Nat} {e : Eng} {i : EngI} {cs : List HProp} {j : Nat} (hj : j < e.rws.length) (hi : i.lb.length = e.rws.length) :
    Sat κ w (engO b e i cs) ↔ Sat κ w (lstB (i.lb[j]'(by omega)) e.rws[j] :: engH b e i (rowsP (e.rws.take j) (i.lb.take j) ++ (rowsP (e.rws.drop (j + 1)) (i.lb.drop (j + 1)) ++ cs))) := by
  unfold engO
  rw [rowsP_at e.rws i.lb j hj hi, List.append_assoc, List.cons_append]
  constructor
  · exact fun h => h.imp fun g hg => sepL_out ([_, _, _, _, _, _] ++ rowsP (e.rws.take j) (i.lb.take j)) hg
  · exact fun h => h.imp fun g hg => sepL_in ([_, _, _, _, _, _] ++ rowsP (e.rws.take j) (i.lb.take j)) hg
end Go.Proofs.YtpcechnalfaajaaDoor

/- engine: New, Now, Account, Transfer, Rows. -/
namespace Go.Proofs.YtpcechnalfaajaaDoor
open Go Go.Proofs

theorem newE_tr (κ : Kap) (cs : List HProp) : Te Tryd.prog 15 [] κ cs (fun _ : Nat => True) (fun b => .pointer (some ⟨b, 0, none⟩)) (fun b => engB b Eng.empty :: cs) := by
  refine .enter Tryd.func15 rfl rfl ?_
  refine .seq ?_
  refine .reg ?_
  refine .as ?_
  refine .go ?_
  refine .seq ?_
  refine .reg ?_
  refine .bz ?_
  refine .bx fun b2 => ?_
  refine .bz ?_
  refine .bx fun b4 => ?_
  refine .bd ?_
  refine .bd ?_
  refine .bx fun b7 => ?_
  refine .as ?_
  refine .go ?_
  refine .r1 fun w hs => ?_
  refine ⟨b7, trivial, rfl, ?_⟩
  have h1 := ((hs.nilS 1 72).nilS 16 43).nilS 46 37
  have h2 : Sat κ w (ixB b4 [] :: ixB b2 [] :: pts b7 (92, [.slice none 0 0, .slice none 0 0, .slice none 0 0, ptrV b2, ptrV b4, .int .i64 0, .int .i64 0]) :: sl 46 (.slice none 0 0) (37, []) :: sl 16 (.slice none 0 0) (43, []) :: sl 1 (.slice none 0 0) (72, []) :: cs) :=
    ix_in none rfl ((ix_in (bx := b2) none rfl (h1.pm 6 [5, 4, 3, 0, 1, 2])).pm 6 [1, 0, 2, 3, 4, 5])
  exact eng_in ⟨none, 0, none, 0, none, 0, b2, b4, []⟩ rfl (h2.pm 6 [2, 3, 4, 5, 1, 0])
theorem nowE_tr (b : Nat) (e : Eng) (i : EngI) (κ : Kap) (cs : List HProp) : Tr Tryd.prog 33 [.pointer (some ⟨b, 0, none⟩)] κ (engO b e i cs) (.int .i64 e.now) (engO b e i cs) := by
  refine .enter Tryd.func33 rfl rfl ?_
  refine .seq ?_
  refine .reg ?_
  refine .as ?_
  refine .go ?_
  refine .seq ?_
  refine .reg ?_
  refine .mv ?_
  refine .nc ?_
  refine .fa ?_
  refine .ld ?_
  refine .as ?_
  refine .go ?_
  refine .r1 fun w hs => ?_
  exact ⟨rfl, hs⟩
theorem encA_zero : encA zA = [.int .u64 0, .int .u64 0, .int .i64 0, .int .i64 0, .int .u64 0, .int .u64 0, .int .u64 0, .int .u64 0, .int .u64 0, .int .u64 0, .int .u64 0, .int .u64 0, .int .i64 0, .int .i64 0] ++ bv (List.replicate 32 0) := by rfl
theorem acct_tr (b : Nat) (e : Eng) (hn : e.ids.Nodup) (hl : e.acc.length < 700) (i : EngI) (id : Num) (κ : Kap) (cs : List HProp) :
    Tr Tryd.prog 20 [.pointer (some ⟨b, 0, none⟩), .agg (nm id).toArray] κ (engO b e i cs) (.tuple #[.agg (encA ((e.account id).getD zA)).toArray, .bool (e.account id).isSome]) (engO b e i cs) := by
  refine .enter Tryd.func20 rfl rfl ?_
  refine .seq ?_
  refine .reg ?_
  refine .bx fun b3 => ?_
  refine .al fun b4 => ?_
  refine .as ?_
  refine .go ?_
  refine .seq ?_
  rw [vc_agg]
  refine .regD [(b, 0, [.slice i.pa e.acc.length i.ca, .slice i.pt e.trs.length i.ct, .slice i.pr i.lb.length i.cr, ptrV i.bA, ptrV i.bI, .int .i64 e.time, .int .i64 e.now]), (b3, 0, nm id)] [] ?_
  refine .mv 0 ?_
  refine .nc 1 ?_
  refine .fa 2 ?_
  refine .fa 3 ?_
  refine .ld 4 ?_
  refine .ldw 5 ?_
  have hil : e.ids.length = e.acc.length := by simp [Eng.ids]
  refine .pm 8 [6, 0, 1, 2, 3, 4, 5, 7] ?_
  refine .cl 6 (getB_tr i.bA (idxOf e.ids) (idx_srt hn) (by rw [idx_len hn, hil]; omega) id κ _) ?_
  rw [idx_get hn]
  refine .pm 8 [1, 2, 3, 4, 5, 6, 0, 7] ?_
  have hacc : e.account id = (posN id e.ids).map fun i => e.acc.getD i zA := rfl
  rw [hacc]
  cases hp : posN id e.ids with
  | none =>
    simp only [Option.map_none, Option.getD_none, Option.isSome_none]
    refine .mv 7 ?_
    refine .ex 8 ?_
    refine .ex 9 ?_
    refine .as 10 ?_
    refine .as 11 ?_
    refine .go ?_
    refine .seq ?_
    refine .seq ?_
    refine .reg ?_
    refine .mv ?_
    refine .nt ?_
    refine .go ?_
    refine .cond rfl (fun hc => ?_) (fun hc => by cases hc)   -- t19
    refine .seq ?_
    refine .reg ?_
    refine .bz ?_
    refine .stw ?_
    refine .as ?_
    refine .go ?_
    refine .r2 (h := ⟨inferInstance, rfl, .cw, .t⟩) fun w hs => ?_
    refine ⟨?_, hs.rows.rows⟩
    rw [encA_zero]; rfl
  | some j =>
    obtain ⟨hj, _⟩ := posN_some hp
    have hj : j < e.acc.length := by omega
    simp only [Option.map_some, Option.getD_some, Option.isSome_some]
    refine .mv 7 ?_
    refine .ex 8 ?_
    refine .ex 9 ?_
    refine .as 10 ?_
    refine .as 11 ?_
    refine .go ?_
    refine .seq ?_
    refine .seq ?_
    refine .reg ?_
    refine .mv ?_
    refine .nt ?_
    refine .go ?_
    refine .cond rfl (fun hc => by cases hc) (fun hc => ?_)   -- t19
    refine .slp (p := i.pa) (cap := i.ca) (sz := 46) (n0 := e.acc.length) (by omega) (fun bb hbb _ => ?_)
    have hg : getV true (e.acc.flatMap encA) (((j : Nat) : Int).toNat * 46) 46 = some (.agg (encA (e.acc.getD j zA)).toArray) := by
      have := flat_get encA 46 encA_len e.acc j 0 46 true (.agg (encA e.acc[j]).toArray) hj (getV_whole (encA_len _))
      simpa [List.getD, hj] using this
    refine .go ?_
    refine .seq ?_
    refine .reg ?_
    refine .mv ?_
    refine .nc ?_
    refine .fa ?_
    refine .fa ?_
    refine .ld ?_
    refine .mv ?_
    unfold engO engH
    rw [hbb]
    refine .ix ?_
    refine .lx hg ?_
    have h46 : (encA (e.acc.getD j zA)).length = 46 := encA_len _
    have h1 : one (encA (e.acc.getD j zA)) = true := encA_one _
    generalize encA (e.acc.getD j zA) = A at *
    refine .stw (h := ⟨rfl, rfl, inferInstance, inferInstance, ⟨h46, rfl⟩, h1, rfl⟩) ?_
    refine .as ?_
    refine .go ?_
    refine .r2 (h := ⟨inferInstance, rfl, .cw ⟨rfl, inferInstance, inferInstance, rfl, h46⟩, .t⟩) fun w hs => ?_
    exact ⟨rfl, hs.rows.rows⟩
theorem trans_tr (b : Nat) (e : Eng) (hn : e.tids.Nodup) (hl : e.trs.length < 700) (i : EngI) (id : Num) (κ : Kap) (cs : List HProp) :
    Tr Tryd.prog 30 [.pointer (some ⟨b, 0, none⟩), .agg (nm id).toArray] κ (engO b e i cs) (.tuple #[.agg (encT ((e.transfer id).getD zT)).toArray, .bool (e.transfer id).isSome]) (engO b e i cs) := by
  refine .enter Tryd.func30 rfl rfl ?_
  refine .seq ?_
  refine .reg ?_
  refine .bx fun b3 => ?_
  refine .al fun b4 => ?_
  refine .as ?_
  refine .go ?_
  refine .seq ?_
  rw [vc_agg]
  refine .regD [(b, 0, [.slice i.pa e.acc.length i.ca, .slice i.pt e.trs.length i.ct, .slice i.pr i.lb.length i.cr, ptrV i.bA, ptrV i.bI, .int .i64 e.time, .int .i64 e.now]), (b3, 0, nm id)] [] ?_
  refine .mv 0 ?_
  refine .nc 1 ?_
  refine .fa 2 ?_
  refine .fa 3 ?_
  refine .ld 4 ?_
  refine .ldw 5 ?_
  have hil : e.tids.length = e.trs.length := by simp [Eng.tids]
  refine .pm 8 [7, 0, 1, 2, 3, 4, 5, 6] ?_
  refine .cl 6 (getB_tr i.bI (idxOf e.tids) (idx_srt hn) (by rw [idx_len hn, hil]; omega) id κ _) ?_
  rw [idx_get hn]
  refine .pm 8 [1, 2, 3, 4, 5, 6, 7, 0] ?_
  have hacc : e.transfer id = (posN id e.tids).map fun i => e.trs.getD i zT := rfl
  rw [hacc]
  cases hp : posN id e.tids with
  | none =>
    simp only [Option.map_none, Option.getD_none, Option.isSome_none]
    refine .mv 7 ?_
    refine .ex 8 ?_
    refine .ex 9 ?_
    refine .as 10 ?_
    refine .as 11 ?_
    refine .go ?_
    refine .seq ?_
    refine .seq ?_
    refine .reg ?_
    refine .mv ?_
    refine .nt ?_
    refine .go ?_
    refine .cond rfl (fun hc => ?_) (fun hc => by cases hc)   -- t19
    refine .seq ?_
    refine .reg ?_
    refine .bz ?_
    refine .stw ?_
    refine .as ?_
    refine .go ?_
    refine .r2 (h := ⟨inferInstance, rfl, .cw, .t⟩) fun w hs => ?_
    refine ⟨?_, hs.rows.rows⟩
    rfl
  | some j =>
    obtain ⟨hj, _⟩ := posN_some hp
    have hj : j < e.trs.length := by omega
    simp only [Option.map_some, Option.getD_some, Option.isSome_some]
    refine .mv 7 ?_
    refine .ex 8 ?_
    refine .ex 9 ?_
    refine .as 10 ?_
    refine .as 11 ?_
    refine .go ?_
    refine .seq ?_
    refine .seq ?_
    refine .reg ?_
    refine .mv ?_
    refine .nt ?_
    refine .go ?_
    refine .cond rfl (fun hc => by cases hc) (fun hc => ?_)   -- t19
    refine .slp (p := i.pt) (cap := i.ct) (sz := 16) (n0 := e.trs.length) (by omega) (fun bb hbb _ => ?_)
    have hg : getV true (e.trs.flatMap encT) (((j : Nat) : Int).toNat * 16) 16 = some (.agg (encT (e.trs.getD j zT)).toArray) := by
      have := flat_get encT 16 encT_len e.trs j 0 16 true (.agg (encT e.trs[j]).toArray) hj (getV_whole (encT_len _))
      simpa [List.getD, hj] using this
    refine .go ?_
    refine .seq ?_
    refine .reg ?_
    refine .mv ?_
    refine .nc ?_
    refine .fa ?_
    refine .fa ?_
    refine .ld ?_
    refine .mv ?_
    unfold engO engH
    rw [hbb]
    refine .ix ?_
    refine .lx hg ?_
    have h46 : (encT (e.trs.getD j zT)).length = 16 := encT_len _
    have h1 : one (encT (e.trs.getD j zT)) = true := encT_one _
    generalize encT (e.trs.getD j zT) = A at *
    refine .stw (h := ⟨rfl, rfl, inferInstance, inferInstance, ⟨h46, rfl⟩, h1, rfl⟩) ?_
    refine .as ?_
    refine .go ?_
    refine .r2 (h := ⟨inferInstance, rfl, .cw ⟨rfl, inferInstance, inferInstance, rfl, h46⟩, .t⟩) fun w hs => ?_
    exact ⟨rfl, hs.rows.rows⟩
def rowsV (e : Eng) (i : EngI) (id : Num) : Value := match posN id e.ids with
  | none => .pointer none
  | some j => ptrV (i.lb.getD j 0)
theorem rowsE_tr (b : Nat) (e : Eng) (hn : e.ids.Nodup) (hl : e.acc.length < 700) (hr : e.rws.length = e.acc.length) (i : EngI) (hi : i.lb.length = e.rws.length) (id : Num) (κ : Kap) (cs : List HProp) :
    Tr Tryd.prog 31 [.pointer (some ⟨b, 0, none⟩), .agg (nm id).toArray] κ (engO b e i cs) (rowsV e i id) (engO b e i cs) := by
  refine .enter Tryd.func31 rfl rfl ?_
  refine .seq ?_
  refine .reg ?_
  refine .bx fun b3 => ?_
  refine .as ?_
  refine .go ?_
  refine .seq ?_
  rw [vc_agg]
  refine .regD [(b, 0, [.slice i.pa e.acc.length i.ca, .slice i.pt e.trs.length i.ct, .slice i.pr i.lb.length i.cr, ptrV i.bA, ptrV i.bI, .int .i64 e.time, .int .i64 e.now]), (b3, 0, nm id)] [] ?_
  refine .mv 0 ?_
  refine .nc 1 ?_
  refine .fa 2 ?_
  refine .fa 3 ?_
  refine .ld 4 ?_
  refine .ldw 5 ?_
  have hil : e.ids.length = e.acc.length := by simp [Eng.ids]
  refine .pm 7 [5, 0, 1, 2, 3, 4, 6] ?_
  refine .cl 6 (getB_tr i.bA (idxOf e.ids) (idx_srt hn) (by rw [idx_len hn, hil]; omega) id κ _) ?_
  rw [idx_get hn]
  refine .pm 7 [1, 2, 3, 4, 5, 0, 6] ?_
  unfold rowsV
  cases hp : posN id e.ids with
  | none =>
    simp only [Option.map_none, Option.getD_none, Option.isSome_none]
    refine .mv 7 ?_
    refine .ex 8 ?_
    refine .ex 9 ?_
    refine .as 10 ?_
    refine .as 11 ?_
    refine .go ?_
    refine .seq ?_
    refine .seq ?_
    refine .reg ?_
    refine .mv ?_
    refine .nt ?_
    refine .go ?_
    refine .cond rfl (fun hc => ?_) (fun hc => by cases hc)   -- t19
    refine .seq ?_
    refine .reg ?_
    refine .as ?_
    refine .go ?_
    refine .r1 fun w hs => ?_
    exact ⟨rfl, hs.rows⟩
  | some j =>
    obtain ⟨hj, _⟩ := posN_some hp
    have hj : j < i.lb.length := by omega
    simp only [Option.map_some, Option.getD_some, Option.isSome_some]
    refine .mv 7 ?_
    refine .ex 8 ?_
    refine .ex 9 ?_
    refine .as 10 ?_
    refine .as 11 ?_
    refine .go ?_
    refine .seq ?_
    refine .seq ?_
    refine .reg ?_
    refine .mv ?_
    refine .nt ?_
    refine .go ?_
    refine .cond rfl (fun hc => by cases hc) (fun hc => ?_)   -- t19
    refine .slp (p := i.pr) (cap := i.cr) (sz := 1) (n0 := i.lb.length) (by omega) (fun bb hbb _ => ?_)
    have hg : getV false (i.lb.map ptrV) (((j : Nat) : Int).toNat * 1) 1 = some (ptrV (i.lb.getD j 0)) := by
      rw [Nat.mul_one]; simp [getV, get1_eq, hj, List.getD]
    refine .go ?_
    refine .seq ?_
    refine .reg ?_
    refine .mv ?_
    refine .nc ?_
    refine .fa ?_
    refine .fa ?_
    refine .ld ?_
    refine .mv ?_
    unfold engO engH
    rw [hbb]
    refine .ix ?_
    refine .lx hg ?_
    refine .as ?_
    refine .go ?_
    refine .r1 fun w hs => ?_
    exact ⟨rfl, hs.rows⟩
end Go.Proofs.YtpcechnalfaajaaDoor

/- An engine in memory: parts of its accounts and transfers, read and written. -/
namespace Go.Proofs.YtpcechnalfaajaaDoor
open Go Go.Proofs

theorem RdAt.sub {α : Type} {enc : α → List Value} {m : Nat} (hm : ∀ x, (enc x).length = m) {b o : Nat} {cs : List HProp} {l : List α} (h : RdAt b cs o (l.flatMap enc)) (j : Nat) (hj : j < l.length) : RdAt b cs (o + j * m) (enc l[j]) := by
  have h1 := h.drop (j * m) (by rw [flat_len enc m hm]; exact Nat.mul_le_mul_right m (by omega))
  rw [← flat_drop enc m hm, List.drop_eq_getElem_cons hj, List.flatMap_cons] at h1
  have h2 := h1.take m
  rw [List.take_append_of_le_length (by rw [hm]; omega), List.take_of_length_le (by rw [hm]; omega)] at h2
  exact h2
theorem putN_app {l vs : List Value} (pre : List Value) (h : l.length = vs.length) : putN (pre ++ l) pre.length vs = some (pre ++ vs) := by
  induction vs generalizing pre l with
  | nil => have : l = [] := List.eq_nil_of_length_eq_zero (by simpa using h); subst this; simp [putN]
  | cons v vs ih =>
    cases l with
    | nil => simp at h
    | cons x t =>
      have hp : ∀ (pre : List Value), put1 (pre ++ x :: t) pre.length v = some (pre ++ v :: t) := by
        intro pre; induction pre with
        | nil => rfl
        | cons y pre ih => simp [put1, ih]
      simp only [putN, hp]
      have := ih (pre ++ [v]) (l := t) (by simpa using h)
      simpa using this
theorem put1_shift {l r : List Value} {k : Nat} {v : Value} (h : put1 l k v = some r) : ∀ (pre sp : List Value), put1 (pre ++ (l ++ sp)) (pre.length + k) v = some (pre ++ (r ++ sp)) := by
  intro pre sp
  induction pre with
  | nil =>
    simp only [List.nil_append, List.length_nil, Nat.zero_add]
    induction l generalizing k r with
    | nil => cases k <;> cases h
    | cons x t ih =>
      cases k with
      | zero => simp only [put1] at h; cases h; rfl
      | succ k =>
        simp only [put1] at h
        cases h1 : put1 t k v with
        | none => rw [h1] at h; cases h
        | some r' => rw [h1] at h; cases h; simp only [List.cons_append, put1, ih h1]
  | cons y pre ih =>
    rw [List.length_cons, show pre.length + 1 + k = (pre.length + k) + 1 by omega]
    simp only [List.cons_append, put1, ih]
theorem putN_shift : ∀ {vs l r : List Value} {k : Nat}, putN l k vs = some r → ∀ (pre sp : List Value), putN (pre ++ (l ++ sp)) (pre.length + k) vs = some (pre ++ (r ++ sp)) := by
  intro vs
  induction vs with
  | nil => intro l r k h pre sp; simp only [putN] at h ⊢; cases h; rfl
  | cons v vs ih =>
    intro l r k h pre sp
    simp only [putN] at h ⊢
    cases h1 : put1 l k v with
    | none => rw [h1] at h; cases h
    | some r' =>
      rw [h1] at h
      rw [put1_shift h1 pre sp]
      exact ih h pre sp
theorem flat_put {α : Type} {enc : α → List Value} {m : Nat} (hm : ∀ x, (enc x).length = m) {l : List α} {j k : Nat} (hj : j < l.length) {vs : List Value} {a : α} (h : putN (enc l[j]) k vs = some (enc a)) : putN (l.flatMap enc) (j * m + k) vs = some ((l.set j a).flatMap enc) := by
  have e : l = l.take j ++ (l[j] :: l.drop (j + 1)) := by rw [← List.drop_eq_getElem_cons hj, List.take_append_drop]
  have e2 : l.set j a = l.take j ++ (a :: l.drop (j + 1)) := by
    rw [List.set_eq_take_append_cons_drop, if_pos hj]
  have e3 : j * m = ((l.take j).flatMap enc).length := by rw [flat_len enc m hm, List.length_take]; congr 1; omega
  rw [e2]
  conv => lhs; rw [e]
  rw [List.flatMap_append, List.flatMap_cons, List.flatMap_append, List.flatMap_cons, e3]
  exact putN_shift h _ _
theorem putA_root (a : Account) (h : Hash) : putN (encA a) 14 (hcells h) = some (encA { a with root := h }) :=
  putN_app [.int .u64 ((a.id.toNat / 18446744073709551616 : Nat) : Int), .int .u64 ((a.id.toNat % 18446744073709551616 : Nat) : Int), .int .i64 a.ledger, .int .i64 a.flags,
    .int .u64 ((a.dp.toNat / 18446744073709551616 : Nat) : Int), .int .u64 ((a.dp.toNat % 18446744073709551616 : Nat) : Int), .int .u64 ((a.dq.toNat / 18446744073709551616 : Nat) : Int), .int .u64 ((a.dq.toNat % 18446744073709551616 : Nat) : Int),
    .int .u64 ((a.cp.toNat / 18446744073709551616 : Nat) : Int), .int .u64 ((a.cp.toNat % 18446744073709551616 : Nat) : Int), .int .u64 ((a.cq.toNat / 18446744073709551616 : Nat) : Int), .int .u64 ((a.cq.toNat % 18446744073709551616 : Nat) : Int),
    .int .i64 a.time, .int .i64 a.rows] (show (hcells a.root).length = (hcells h).length by rw [hcells_len, hcells_len])
theorem getD_at {α : Type} {l : List α} {j : Nat} {d : α} (h : j < l.length) : l.getD j d = l[j] := by simp [List.getD, h]
theorem ids_set {e : Eng} {j : Nat} {a : Account} (h : a.id = (e.acc.getD j zA).id) : (e.acc.set j a).map (·.id) = e.acc.map (·.id) := by
  rw [List.map_set]
  by_cases hj : j < e.acc.length
  · rw [getD_at hj] at h
    apply List.ext_getElem?
    intro k
    rw [List.getElem?_set]
    split
    · rename_i h1; subst h1; simp [hj, h]
    · rfl
  · rw [List.set_eq_of_length_le (by simp; omega)]
theorem tids_set {l : List Transfer} {j : Nat} {a : Transfer} (h : a.id = (l.getD j zT).id) : (l.set j a).map (·.id) = l.map (·.id) := by
  rw [List.map_set]
  by_cases hj : j < l.length
  · rw [getD_at hj] at h
    apply List.ext_getElem?
    intro k
    rw [List.getElem?_set]
    split
    · rename_i h1; subst h1; simp [hj, h]
    · rfl
  · rw [List.set_eq_of_length_le (by simp; omega)]
namespace Eng
@[simp] theorem row1_ids (e : Eng) (id : Num) (ev : Int) (n : Num) (i : Nat) : (e.row1 id ev n i).ids = e.ids := ids_set (e := e) rfl
@[simp] theorem row1_tids (e : Eng) (id : Num) (ev : Int) (n : Num) (i : Nat) : (e.row1 id ev n i).tids = e.tids := rfl
@[simp] theorem row1_trs (e : Eng) (id : Num) (ev : Int) (n : Num) (i : Nat) : (e.row1 id ev n i).trs = e.trs := rfl
@[simp] theorem row1_time (e : Eng) (id : Num) (ev : Int) (n : Num) (i : Nat) : (e.row1 id ev n i).time = e.time := rfl
@[simp] theorem row1_now (e : Eng) (id : Num) (ev : Int) (n : Num) (i : Nat) : (e.row1 id ev n i).now = e.now := rfl
@[simp] theorem row1_acc_len (e : Eng) (id : Num) (ev : Int) (n : Num) (i : Nat) : (e.row1 id ev n i).acc.length = e.acc.length := by simp [row1]
@[simp] theorem row1_rws_len (e : Eng) (id : Num) (ev : Int) (n : Num) (i : Nat) : (e.row1 id ev n i).rws.length = e.rws.length := by simp [row1]
end Eng
theorem eng_listH {κ : Kap} {g : Hp} {b : Nat} {e : Eng} {i : EngI} {cs : List HProp} {j : Nat} (hj : j < e.rws.length) (hi : i.lb.length = e.rws.length) :
    sepL κ (engO b e i cs) g ↔ sepL κ (lstB (i.lb[j]'(by omega)) e.rws[j] :: engH b e i (rowsP (e.rws.take j) (i.lb.take j) ++ (rowsP (e.rws.drop (j + 1)) (i.lb.drop (j + 1)) ++ cs))) g := by
  unfold engO
  rw [rowsP_at e.rws i.lb j hj hi, List.append_assoc, List.cons_append]
  exact ⟨fun h => sepL_out ([_, _, _, _, _, _] ++ rowsP (e.rws.take j) (i.lb.take j)) h, fun h => sepL_in ([_, _, _, _, _, _] ++ rowsP (e.rws.take j) (i.lb.take j)) h⟩
/-- One list taken out, with rows ahead. -/
theorem eng_listF {κ : Kap} {w : World} {b : Nat} {e : Eng} {i : EngI} {cs : List HProp} {j : Nat} (F : List HProp) (hj : j < e.rws.length) (hi : i.lb.length = e.rws.length) :
    Sat κ w (F ++ engO b e i cs) ↔ Sat κ w (lstB (i.lb[j]'(by omega)) e.rws[j] :: (F ++ engH b e i (rowsP (e.rws.take j) (i.lb.take j) ++ (rowsP (e.rws.drop (j + 1)) (i.lb.drop (j + 1)) ++ cs)))) :=
  ⟨fun h => h.imp fun _ hg => sepL_out F (sepL_tails (fun _ hg => (eng_listH hj hi).1 hg) F hg), fun h => h.imp fun _ hg => sepL_tails (fun _ hg => (eng_listH hj hi).2 hg) F (sepL_in F hg)⟩
/-- Rows ahead of an engine's, or behind. -/
theorem eng_back {κ : Kap} {g : Hp} {b : Nat} {e : Eng} {i : EngI} {cs : List HProp} (F : List HProp) : sepL κ (F ++ engO b e i cs) g ↔ sepL κ (engO b e i (F ++ cs)) g := by
  constructor
  · intro h
    exact sepL_tails (F := [_, _, _, _, _, _]) (fun g h => sepL_swapl F _ h) (sepL_swapl F [_, _, _, _, _, _] h)
  · intro h
    have h1 := sepL_tails (F := [_, _, _, _, _, _]) (fun g h => sepL_swapl (rowsP e.rws i.lb) F h) h
    exact sepL_swapl [_, _, _, _, _, _] F h1
theorem Tr.ef {P : Program} {f : FuncId} {args : List Value} {κ : Kap} {b b' : Nat} {e e' : Eng} {i i' : EngI} {cs : List HProp} {v : Value} (F : List HProp) (h : Tr P f args κ (engO b e i (F ++ cs)) v (engO b' e' i' (F ++ cs))) : Tr P f args κ (F ++ engO b e i cs) v (F ++ engO b' e' i' cs) :=
  fun w hs => (h w (hs.imp fun _ hg => (eng_back F).1 hg)).mono fun _ _ ⟨h1, h2⟩ => ⟨h1, h2.imp fun _ hg => (eng_back F).2 hg⟩
theorem Tr.ef1 {P : Program} {f : FuncId} {args : List Value} {κ : Kap} {b b' : Nat} {e e' : Eng} {i i' : EngI} {cs : List HProp} {v : Value} {x : HProp} (h : Tr P f args κ (engO b e i (x :: cs)) v (engO b' e' i' (x :: cs))) : Tr P f args κ (x :: engO b e i cs) v (x :: engO b' e' i' cs) := Tr.ef [x] h
theorem Tr.ef2 {P : Program} {f : FuncId} {args : List Value} {κ : Kap} {b b' : Nat} {e e' : Eng} {i i' : EngI} {cs : List HProp} {v : Value} {x y : HProp} (h : Tr P f args κ (engO b e i (x :: y :: cs)) v (engO b' e' i' (x :: y :: cs))) : Tr P f args κ (x :: y :: engO b e i cs) v (x :: y :: engO b' e' i' cs) := Tr.ef [x, y] h
theorem Tr.ef3 {P : Program} {f : FuncId} {args : List Value} {κ : Kap} {b b' : Nat} {e e' : Eng} {i i' : EngI} {cs : List HProp} {v : Value} {x y z : HProp} (h : Tr P f args κ (engO b e i (x :: y :: z :: cs)) v (engO b' e' i' (x :: y :: z :: cs))) : Tr P f args κ (x :: y :: z :: engO b e i cs) v (x :: y :: z :: engO b' e' i' cs) := Tr.ef [x, y, z] h
theorem Tr.ef5 {P : Program} {f : FuncId} {args : List Value} {κ : Kap} {b b' : Nat} {e e' : Eng} {i i' : EngI} {cs : List HProp} {v : Value} {x y z u t : HProp} (h : Tr P f args κ (engO b e i (x :: y :: z :: u :: t :: cs)) v (engO b' e' i' (x :: y :: z :: u :: t :: cs))) : Tr P f args κ (x :: y :: z :: u :: t :: engO b e i cs) v (x :: y :: z :: u :: t :: engO b' e' i' cs) := Tr.ef [x, y, z, u, t] h
end Go.Proofs.YtpcechnalfaajaaDoor

/- engine: row. -/
namespace Go.Proofs.YtpcechnalfaajaaDoor
open Go Go.Proofs

structure RowOk (e : Eng) : Prop where
  la : e.acc.length < 700
  lr : e.rws.length = e.acc.length
  lw : ∀ l ∈ e.rws, l.length < 90000
theorem RowOk.row1 {e : Eng} (h : RowOk e) (hlt : ∀ l ∈ e.rws, l.length + 1 < 90000) (id : Num) (ev : Int) (n : Num) (j : Nat) : RowOk (e.row1 id ev n j) where
  la := by simpa using h.la
  lr := by simpa using h.lr
  lw := by
    intro l hl
    rcases List.mem_or_eq_of_mem_set hl with hl | rfl
    · exact h.lw l hl
    · rw [List.length_append]
      rcases Nat.lt_or_ge j e.rws.length with hj | hj
      · rw [getD_at hj]; have := hlt _ (List.getElem_mem hj); simpa using this
      · simp [List.getD, hj]
theorem erow_tr (b : Nat) (id : Num) (ev : Int) (hev : -1000000000000 ≤ ev ∧ ev ≤ 1000000000000) (n : Num) (ls : List Nat) (hls : ls.length < 1000) (κ : Kap) (hκ : Laid κ) (i : EngI) (bl : Nat) (cs : List HProp) (e : Eng) (hi : i.lb.length = e.rws.length)
    (hok : ∀ k ≤ ls.length, RowOk (e.row id ev n (ls.take k))) (hin : ∀ j ∈ ls, j < e.acc.length) :
    Tr Tryd.prog 67 [.pointer (some ⟨b, 0, none⟩), .agg (nm id).toArray, .int .i64 ev, .agg (nm n).toArray, .slice (some ⟨bl, 0, none⟩) ls.length ls.length] κ (pts bl (3, cells .i64 (ls.map fun (k : Nat) => (k : Int))) :: engO b e i cs) (.tuple #[])
      (pts bl (3, cells .i64 (ls.map fun (k : Nat) => (k : Int))) :: engO b (e.row id ev n ls) i cs) := by
  refine .enter Tryd.func67 rfl rfl ?_
  refine .seq ?_
  refine .reg ?_
  refine .bx fun b6 => ?_
  refine .bx fun b8 => ?_
  refine .go ?_
  refine .seq ?_
  refine .reg ?_
  refine .mv ?_
  refine .ln ?_
  refine .mv ?_
  refine .go ?_
  refine .block ?_
  rw [vc_agg, vc_agg]
  have hlens : ∀ k, (e.row id ev n (ls.take k)).acc.length = e.acc.length ∧ (e.row id ev n (ls.take k)).rws.length = e.rws.length := by
    intro k
    generalize ls.take k = l
    have : ∀ (l : List Nat) (e : Eng), (e.row id ev n l).acc.length = e.acc.length ∧ (e.row id ev n l).rws.length = e.rws.length := by
      intro l
      induction l with
      | nil => intro e; exact ⟨rfl, rfl⟩
      | cons x l ih =>
        intro e
        have := ih (e.row1 id ev n x)
        rw [Eng.row1_acc_len, Eng.row1_rws_len] at this
        exact this
    exact this l e
  refine .lp (fun k : Nat => [(0, .pointer (some ⟨b, 0, none⟩)), (2, .int .i64 ev), (6, .pointer (some ⟨b6, 0, none⟩)), (8, .pointer (some ⟨b8, 0, none⟩)), (13, .slice (some ⟨bl, 0, none⟩) ls.length ls.length), (14, .int .i64 ls.length), (15, .int .i64 k)])
    (fun k => pts b8 (24, nm n) :: pts b6 (24, nm id) :: pts bl (3, cells .i64 (ls.map fun (k : Nat) => (k : Int))) :: engO b (e.row id ev n (ls.take k)) i cs) (fun k => k ≤ ls.length) (fun k => ls.length - k) 0 (by omega) (by repeat (first | exact trivial | refine ⟨rfl, ?_⟩)) rfl fun k hk => ?_
  refine .seq ?_
  refine .reg ?_
  refine .lt ?_
  refine .go ?_
  refine .seq ?_
  refine .cond rfl (fun hc => ?_) (fun hc => ?_)   -- t16
  · have hlt : k < ls.length := by have : (k : Int) < ls.length := of_decide_eq_true hc; omega
    refine .go ?_
    have hok1 := hok k hk
    have hsucc : e.row id ev n (ls.take (k + 1)) = (e.row id ev n (ls.take k)).row1 id ev n ls[k] := by
      unfold Eng.row
      rw [List.take_succ_eq_append_getElem hlt, List.foldl_append]; rfl
    have hj := hin _ (List.getElem_mem hlt)
    have hla := (hlens k).1
    have hlr := (hlens k).2
    have hgi : getV false (cells .i64 (ls.map fun (k : Nat) => (k : Int))) (((k : Nat) : Int).toNat * 1) 1 = some (.int .i64 (ls[k] : Int)) := by
      rw [Nat.mul_one]
      have := cells_get .i64 (ls.map fun (k : Nat) => (k : Int)) k (by simpa using hlt)
      simpa [List.getD, hlt] using this
    generalize e.row id ev n (ls.take k) = e1 at *
    generalize ls[k] = j at *
    have hi1 : i.lb.length = e1.rws.length := by omega
    have hja : j < e1.acc.length := by omega
    have hj1 : j < e1.rws.length := by rw [hok1.lr]; exact hja
    have hjb : j < i.lb.length := by omega
    refine .sat (fun w hs => (eng_listF [_, _, _] hj1 hi1).1 hs) ?_
    simp only [List.cons_append, List.nil_append]
    refine .slp (p := i.pa) (cap := i.ca) (sz := 46) (n0 := e1.acc.length) (by omega) (fun ba hba _ => ?_)
    refine .slp (p := i.pr) (cap := i.cr) (sz := 1) (n0 := i.lb.length) (by omega) (fun bp hbp _ => ?_)
    refine .seq ?_
    refine .block ?_
    refine .seq ?_
    refine .reg ?_
    refine .ix ?_
    refine .lx hgi ?_
    refine .as ?_
    refine .go ?_
    refine .seq ?_
    refine .reg ?_
    refine .mv ?_
    refine .nc ?_
    refine .fa ?_
    refine .fa ?_
    refine .ld ?_
    refine .mv ?_
    unfold engH
    rw [hba, hbp]
    refine .ix ?_
    refine .as ?_
    refine .go ?_
    refine .seq ?_
    have hA : ∀ (cs : List HProp) [RdAt ba cs 0 (e1.acc.flatMap encA)], RdAt ba cs (0 + ((j : Nat) : Int).toNat * 46) (encA e1.acc[j]) := fun cs h => h.sub encA_len j hja
    have hgb : getV false (i.lb.map ptrV) (((j : Nat) : Int).toNat * 1) 1 = some (ptrV i.lb[j]) := by
      rw [Nat.mul_one]; simp [getV, get1_eq, hjb]
    generalize hae : e1.acc[j] = a at *
    refine .regD [(b, 0, [.slice (some ⟨ba, 0, none⟩) e1.acc.length i.ca, .slice i.pt e1.trs.length i.ct, .slice (some ⟨bp, 0, none⟩) i.lb.length i.cr, ptrV i.bA, ptrV i.bI, .int .i64 e1.time, .int .i64 e1.now]), (bp, 0, i.lb.map ptrV), (b6, 0, nm id), (b8, 0, nm n), (ba, 0 + ((j : Nat) : Int).toNat * 46, encA a)] [] ?_
    refine .mv 0 ?_
    refine .nc 1 ?_
    refine .fa 2 ?_
    refine .fa 3 ?_
    refine .ld 4 ?_
    refine .mv 5 ?_
    refine .ix 6 ?_
    refine .lx 7 hgb ?_
    refine .ldw 8 ?_
    refine .mv 9 ?_
    refine .nc 10 ?_
    refine .fa 11 ?_
    refine .ld 12 ?_
    refine .mv 13 ?_
    refine .ldw 14 ?_
    refine .mv 15 ?_
    refine .nc 16 ?_
    refine .fa 17 ?_
    refine .lx 18 (show getV true (encA a) 4 2 = some (.agg (nm a.dp).toArray) from rfl) ?_
    refine .mv 19 ?_
    refine .nc 20 ?_
    refine .fa 21 ?_
    refine .lx 22 (show getV true (encA a) 6 2 = some (.agg (nm a.dq).toArray) from rfl) ?_
    refine .mv 23 ?_
    refine .nc 24 ?_
    refine .fa 25 ?_
    refine .lx 26 (show getV true (encA a) 8 2 = some (.agg (nm a.cp).toArray) from rfl) ?_
    refine .mv 27 ?_
    refine .nc 28 ?_
    refine .fa 29 ?_
    refine .lx 30 (show getV true (encA a) 10 2 = some (.agg (nm a.cq).toArray) from rfl) ?_
    refine .bd 31 ?_
    have hrl : (e1.rws[j]).length < 90000 := hok1.lw _ (List.getElem_mem hj1)
    refine .cl 32 (raddB_tr i.lb[j] e1.rws[j] (by omega) ⟨id, e1.time, ev, n, a.dp, a.dq, a.cp, a.cq⟩ hev κ hκ _) ?_
    generalize hl : e1.rws[j] ++ [(⟨id, e1.time, ev, n, a.dp, a.dq, a.cp, a.cq⟩ : Row)] = l at *
    have hll : l.length < 100000 := by rw [← hl]; simp; omega
    refine .go ?_
    refine .regD [(b, 0, [.slice (some ⟨ba, 0, none⟩) e1.acc.length i.ca, .slice i.pt e1.trs.length i.ct, .slice (some ⟨bp, 0, none⟩) i.lb.length i.cr, ptrV i.bA, ptrV i.bI, .int .i64 e1.time, .int .i64 e1.now]), (bp, 0, i.lb.map ptrV)] [22, 25] ?_
    refine .mv 0 ?_
    refine .mv 1 ?_
    refine .mv 2 ?_
    refine .nc 3 ?_
    refine .fa 4 ?_
    refine .fa 5 ?_
    refine .ld 6 ?_
    refine .mv 7 ?_
    refine .ix 8 ?_
    refine .lx 9 hgb ?_
    refine .mv 11 ?_
    refine .nc 12 ?_
    refine .fa 13 ?_
    refine .fa 14 ?_
    refine .ld 15 ?_
    refine .mv 16 ?_
    refine .ix 17 ?_
    refine .lx 18 hgb ?_
    refine .cl 10 (rlenB_tr i.lb[j] l κ _) ?_
    refine .cl 19 (rrootB_tr i.lb[j] l hll κ hκ _) ?_
    have h32 : (hcells (rootN (l.map leafR))).length = 32 := hcells_len _
    have h1 : one (hcells (rootN (l.map leafR))) = true := hcells_one _
    have hp1 : putN (e1.acc.flatMap encA) (0 + ((j : Nat) : Int).toNat * 46 + 13) [.int .i64 l.length] = some ((e1.acc.set j { a with rows := l.length }).flatMap encA) := by
      rw [Nat.zero_add]
      exact flat_put (j := j) encA_len hja (by rw [hae]; rfl)
    have hp2 : putN ((e1.acc.set j { a with rows := l.length }).flatMap encA) (0 + ((j : Nat) : Int).toNat * 46 + 14) (hcells (rootN (l.map leafR))) = some (((e1.acc.set j { a with rows := l.length }).set j { a with rows := l.length, root := rootN (l.map leafR) }).flatMap encA) := by
      rw [Nat.zero_add]
      exact flat_put (j := j) encA_len (by simpa using hja) (by rw [List.getElem_set_self]; exact putA_root _ _)
    generalize hcells (rootN (l.map leafR)) = H at *
    refine .nc 20 ?_
    refine .fa 21 ?_
    refine .sx 22 hp1 ?_
    refine .nc 23 ?_
    refine .fa 24 ?_
    refine .sx 25 (v := .agg H.toArray) hp2 ?_ rfl ⟨rfl, rfl, inferInstance, inferInstance, ⟨h32, rfl⟩, h1⟩
    refine .go ?_
    refine .reg ?_
    refine .ad ?_
    refine .mv ?_
    refine .nil fun aa w hf hs => ⟨k + 1, by omega, by omega, hf.to (by repeat (first | exact trivial | refine ⟨rfl, ?_⟩)), ?_⟩
    rw [hsucc]
    have he : e1.row1 id ev n j = { e1 with acc := e1.acc.set j { a with rows := l.length, root := rootN (l.map leafR) }, rws := e1.rws.set j l } := by
      unfold Eng.row1
      rw [getD_at hja, getD_at hj1, hae, ← hl]
    have hids : (e1.row1 id ev n j).ids = e1.ids := Eng.row1_ids ..
    rw [he] at hids ⊢
    refine (eng_listF [_, _, _] (by simpa using hj1) (by simpa using hi1)).2 ?_
    simp only [List.getElem_set_self, List.take_set_of_le (Nat.le_refl j), List.drop_set_of_lt (Nat.lt_succ_self j)]
    unfold engH
    rw [hids]
    simp only [List.length_set]
    rw [← hba, ← hbp, List.set_set] at hs
    exact hs
  · have hkl : k = ls.length := by
      have : ¬ (k : Int) < ls.length := of_decide_eq_false hc
      omega
    subst hkl
    refine .x0 fun w hs => ?_
    rw [List.take_length] at hs
    exact ⟨rfl, hs.rows.rows⟩
end Go.Proofs.YtpcechnalfaajaaDoor

/- engine: add. -/
namespace Go.Proofs.YtpcechnalfaajaaDoor
open Go Go.Proofs

theorem RowOk.two {e : Eng} (h : RowOk e) (hlt : ∀ l ∈ e.rws, l.length + 2 < 90000) (id : Num) (ev : Int) (n : Num) (d c : Nat) : ∀ k ≤ [d, c].length, RowOk (e.row id ev n ([d, c].take k)) := by
  intro k hk
  have h1 := h.row1 (fun l hl => by have := hlt l hl; omega) id ev n d
  have hlt1 : ∀ l ∈ (e.row1 id ev n d).rws, l.length + 1 < 90000 := by
    intro l hl
    rcases List.mem_or_eq_of_mem_set hl with hl | rfl
    · have := hlt l hl; omega
    · rw [List.length_append]
      rcases Nat.lt_or_ge d e.rws.length with hj | hj
      · rw [getD_at hj]; have := hlt _ (List.getElem_mem hj); simp; omega
      · simp [List.getD, hj]
  match k, hk with
  | 0, _ => exact h
  | 1, _ => exact h1
  | 2, _ => exact h1.row1 hlt1 id ev n c
theorem putT_field {t : Transfer} {k : Nat} {v : Value} {t' : Transfer} (h : putN (encT t) k [v] = some (encT t')) : putN (encT t) k [v] = some (encT t') := h
theorem eadd_tr (b : Nat) (e : Eng) (i : EngI) (hi : i.lb.length = e.rws.length) (t : Transfer) (n : Num) (d c : Nat) (hd : d < e.acc.length) (hc : c < e.acc.length) (hr : RowOk e) (hlt : ∀ l ∈ e.rws, l.length + 2 < 90000) (hn : e.tids.Nodup) (htl : e.trs.length < 600)
    (htm : -1000000000000 ≤ e.time ∧ e.time ≤ 1000000000000) (hev : -1000000000000 ≤ bclr t.flags 1 ∧ bclr t.flags 1 ≤ 1000000000000) (κ : Kap) (hκ : Laid κ) (cs : List HProp) :
    Te Tryd.prog 75 [.pointer (some ⟨b, 0, none⟩), .agg (encT t).toArray, .agg (nm n).toArray, .int .i64 d, .int .i64 c] κ (engO b e i cs) (fun i' : EngI => i'.lb.length = e.rws.length) (fun _ => .tuple #[]) (fun i' => engO b (e.add t n d c) i' cs) := by
  refine .enter Tryd.func75 rfl rfl ?_
  refine .seq ?_
  refine .reg ?_
  refine .bx fun b6 => ?_
  refine .bx fun b7 => ?_
  refine .go ?_
  refine .seq ?_
  refine .reg ?_
  refine .mv ?_
  refine .nc ?_
  refine .fa ?_
  refine .ld ?_
  refine .ad ?_
  refine .nc ?_
  refine .fa ?_
  refine .st ?_
  refine .go ?_
  refine .seq ?_
  rw [vc_agg, vc_agg]
  refine .regD [(b, 0, [.slice i.pa e.acc.length i.ca, .slice i.pt e.trs.length i.ct, .slice i.pr i.lb.length i.cr, ptrV i.bA, ptrV i.bI, .int .i64 (e.time + 1), .int .i64 e.now])] [] ?_
  refine .mv 0 ?_
  refine .nc 1 ?_
  refine .fa 2 ?_
  refine .ld 3 ?_
  refine .mv 4 ?_
  refine .nc 5 ?_
  refine .fa 6 ?_
  refine .ld 7 ?_
  refine .fa 8 ?_
  refine .sx 9 (r' := encT { t with time := e.time + 1 }) rfl ?_
  refine .fa 10 ?_
  refine .sx 11 (r' := encT { t with time := e.time + 1, tick := e.now }) rfl ?_
  refine .go ?_
  refine .seq ?_
  generalize ht : ({ t with time := e.time + 1, tick := e.now } : Transfer) = t1 at *
  have hid : t1.id = t.id := by rw [← ht]
  have hfl : t1.flags = t.flags := by rw [← ht]
  refine .regD [(b, 0, [.slice i.pa e.acc.length i.ca, .slice i.pt e.trs.length i.ct, .slice i.pr i.lb.length i.cr, ptrV i.bA, ptrV i.bI, .int .i64 (e.time + 1), .int .i64 e.now]), (b6, 0, encT t1)] [] ?_
  refine .mv 0 ?_
  refine .nc 1 ?_
  refine .fa 2 ?_
  refine .fa 3 ?_
  refine .ld 4 ?_
  refine .fa 5 ?_
  refine .ld 6 (v := .agg (nm t1.id).toArray) ?_
  refine .mv 7 ?_
  refine .nc 8 ?_
  refine .fa 9 ?_
  refine .fa 10 ?_
  refine .ld 11 ?_
  refine .ln 12 ?_
  have hil : e.tids.length = e.trs.length := by simp [Eng.tids]
  refine .pm 8 [7, 0, 1, 2, 3, 4, 5, 6] ?_
  refine .cl 13 (putB_tr i.bI (idxOf e.tids) (idx_srt hn) (by rw [idx_len hn, hil]; omega) t1.id (e.trs.length : Int) κ _) ?_
  rw [← hil, ← idxOf_snoc, hil]
  refine .pm 8 [1, 2, 3, 4, 5, 6, 7, 0] ?_
  refine .go ?_
  refine .seq ?_
  refine .regD [(b, 0, [.slice i.pa e.acc.length i.ca, .slice i.pt e.trs.length i.ct, .slice i.pr i.lb.length i.cr, ptrV i.bA, ptrV i.bI, .int .i64 (e.time + 1), .int .i64 e.now]), (b6, 0, encT t1)] [12] ?_
  refine .mv 0 ?_
  refine .mv 1 ?_
  refine .nc 2 ?_
  refine .fa 3 ?_
  refine .fa 4 ?_
  refine .ld 5 ?_
  refine .ldw 6 ?_
  refine .bs1 (v := .agg (encT t1).toArray) (m := 16) 7 (fun b48 => ?_) rfl
  rw [vc_agg]
  refine .ap (src := encT t1) (k := 1) (m := 16) 8 (.inr ⟨b48, 0, rfl, .ofRd (h := .head)⟩) (fun p49 c49 => ?_) rfl rfl
  refine .nc 9 ?_
  refine .fa 10 ?_
  refine .fa 11 ?_
  refine .st 12 ?_
  refine .go ?_
  have hlr : (e.trs ++ [t1]).length = e.trs.length + 1 := by simp
  have hft : (e.trs ++ [t1]).flatMap encT = e.trs.flatMap encT ++ encT t1 := by simp
  have htt : e.tids ++ [t1.id] = (e.trs ++ [t1]).map (·.id) := by simp [Eng.tids]
  rw [← hlr, ← hft, htt]
  refine .reg ?_
  refine .mv ?_
  refine .fa ?_
  refine .ld (v := .agg (nm t1.id).toArray) ?_
  refine .fa ?_
  refine .ld (v := .int .i64 t1.flags) ?_
  refine .ano ?_
  refine .ldw ?_
  refine .mv ?_
  refine .mv ?_
  refine .bs fun b62 => ?_
  rw [hid, hfl]
  generalize he1 : ({ e with time := e.time + 1, trs := e.trs ++ [t1] } : Eng) = e1
  have hr1 : RowOk e1 := by rw [← he1]; exact ⟨hr.la, hr.lr, hr.lw⟩
  have hlt1 : ∀ l ∈ e1.rws, l.length + 2 < 90000 := by rw [← he1]; exact hlt
  have hacc1 : e1.acc.length = e.acc.length := by rw [← he1]
  have hin : ∀ j ∈ [d, c], j < e1.acc.length := by
    intro j hj
    rw [hacc1]
    rcases List.mem_cons.1 hj with rfl | hj
    · exact hd
    · rw [List.mem_singleton.1 hj]; exact hc
  refine .sat (cs' := pts b62 (3, cells .i64 ([d, c].map fun (k : Nat) => (k : Int))) :: engO b e1 { i with pt := p49, ct := c49 } cs) (fun w hs => ?_) ?_
  · rw [← he1]
    exact hs.pm 10 [0, 4, 5, 6, 7, 8, 9]
  refine .cl (erow_tr b t.id (bclr t.flags 1) hev n [d, c] (by simp) κ hκ { i with pt := p49, ct := c49 } b62 cs e1 (by rw [← he1]; exact hi) (hr1.two hlt1 t.id (bclr t.flags 1) n d c) hin) ?_
  refine .e0 fun w hs => ?_
  refine ⟨{ i with pt := p49, ct := c49 }, hi, rfl, ?_⟩
  have e2 : e.add t n d c = e1.row t.id (bclr t.flags 1) n [d, c] := by rw [← he1, ← ht]; rfl
  rw [e2]
  exact hs.rows
end Go.Proofs.YtpcechnalfaajaaDoor
