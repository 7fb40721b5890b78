/- EngineClosed: a closed account is debited, or credited, no more, till what closed it comes to nothing: the tied card of the law holds: for every input the law returns true and its arguments read as before. Conditions: those that the card names (the laid variables, tied to the text). -/
import Derived.Test.YtpcechnalfaajaaDoorP8
import Derived.OpenShut
import Derived.LaidMore
import Derived.Test.YtpcechnalfaajaaDoorRows
import Derived.ProofKit
import Derived.Stop.Joined
import Derived.Test.YtpcechnalfaajaaDoorTie
import Derived.Test.YtpcechnalfaajaaDoorCards
import Derived.SevenTiedAt
/- Tools for the cards. -/
namespace Go.Proofs.YtpcechnalfaajaaDoor
open Go Go.Proofs Go.ChangeShapes Go.WideShapes Go.RowKit

section
variable {H : Type} {enc : TypeId × Value → H} {P : Program} {W : World} {base : Nat} {spare : Nat → Bool} {held : Bool} {fuel : Nat}
theorem arr_lits {t e : TypeId} {n : Nat} {k : IntKind} {cs : List Value} {L : List Int} {p : List MemPlace} (ht : P.underlying t = some (.array n e)) (he : P.underlying e = some (.int k)) (hce : P.cellsOf e = 1) (hct : P.cellsOf t = n)
    (h : DataW.trod enc P W base spare held fuel t cs = some (.agg (L.map fun z => .lit (.int k z)), p)) : cs = cells k L := by
  obtain ⟨xs, m, _, hx, hl, hn, hg⟩ := DataW.trod_array ht h
  simp only [Prod.mk.injEq, DataW.agg.injEq] at hx
  have hxl := congrArg List.length hx.1
  simp at hxl
  apply List.ext_getElem
  · rw [hl, hct, cells_len]; omega
  · intro i h1 h2
    have hin : i < n := by omega
    have hi := hg i hin
    have hxi : i < xs.length := by omega
    rw [List.getElem?_eq_getElem hxi] at hi
    obtain ⟨z, h3, h4, _⟩ := DataW.trod_int he hi
    have h5 : (xs.map (·.1))[i]'(by simpa using hxi) = DataW.lit (Lit.int k z) := by simp [h4]
    have hLi : i < L.length := by omega
    have h6 : (L.map fun z => (DataW.lit (Lit.int k z) : DataW H))[i]'(by simpa using hLi) = DataW.lit (Lit.int k L[i]) := by simp
    have h7 : DataW.lit (Lit.int k L[i]) = (DataW.lit (Lit.int k z) : DataW H) := by
      rw [← h5, ← h6]
      congr 1
      exact hx.1
    have hz : L[i] = z := by simpa using h7
    rw [hce, Nat.mul_one] at h3
    have h8 : cs[i] = .int k z := by
      have := congrArg (fun l => l[0]?) h3
      simp only [List.getElem?_take, List.getElem?_drop] at this
      simpa [List.getElem?_eq_getElem h1] using this
    rw [h8, ← hz]
    simp [cells]
theorem one_lit {t e : TypeId} {k : IntKind} {z : Int} {cs : List Value} {d' : List (DataW H)} {p : List MemPlace} (ht : P.underlying t = some (.slice e)) (he : P.underlying e = some (.int k)) (hce : P.cellsOf e = 1)
    (h : DataW.trod enc P W base spare held fuel t cs = some (.slice [.lit (.int k z)] d', p)) : ∃ b o cap, 1 ≤ cap ∧ cs = [.slice (some ⟨b, o, none⟩) 1 cap] ∧ W.cell? ⟨b, o, none⟩ = some (.int k z) := by
  rcases DataW.trod_slice ht h with ⟨_, hx⟩ | ⟨a, len, cap, elems, rest, n, _, hcs, hx, hb, hlc, _, hel, hg, _, _⟩
  · simp at hx
  · simp only [Prod.mk.injEq, DataW.slice.injEq] at hx
    have hl : elems.length = 1 := by have := congrArg List.length hx.1.1; simpa using this.symm
    have hlen : len = 1 := by omega
    subst hlen
    have h0 := hg 0 (by omega)
    obtain ⟨y, hy⟩ : ∃ y, elems = [y] := by
      match elems, hl with
      | [y], _ => exact ⟨y, rfl⟩
    subst hy
    simp only [List.map_cons, List.map_nil, List.cons.injEq, and_true] at hx
    rw [hce, Nat.zero_mul, show a.add 0 = a from rfl] at h0
    simp only [List.getElem?_cons_zero, Option.bind_eq_some_iff] at h0
    obtain ⟨c, hc, hd⟩ := h0
    obtain ⟨z', h1, h2, _⟩ := DataW.trod_int he hd
    have hz : z = z' := by
      have := hx.1
      rw [h2] at this
      simp at this
      exact this.1
    subst hz h1
    have hcell : W.cell? a = some (.int k z) := by
      unfold World.cells? at hc
      rw [if_pos hb] at hc
      simp [List.range_succ, show a.add 0 = a from rfl] at hc
      cases h1 : W.cell? a with
      | none => rw [h1] at hc; cases hc
      | some v => rw [h1] at hc; simp at hc; rw [hc]
    have hs := World.cell?_spot hcell
    obtain ⟨b, o, sp⟩ := a
    simp only at hs
    subst hs
    exact ⟨b, o, cap, by omega, hcs, hcell⟩
end
/-- The memory as it was when the call began. -/
def kapOf (W : World) : Kap := ⟨W.os, W.tape, W.output, fun b => W.heap[b]?⟩
theorem sat_of (W : World) : Sat (kapOf W) W [] := ⟨rfl, rfl, rfl, Sub.refl _, fun _ => none, fun _ _ h => by (cases h), fun _ => .inl rfl, trivial⟩
theorem below_of {W W' : World} {cs : List HProp} (h : Sat (kapOf W) W' cs) : Below W.heap.size W W' where
  os := h.os
  tape := h.tape
  output := h.out
  size := by
    rcases Nat.eq_zero_or_pos W.heap.size with h0 | h0
    · omega
    · have h1 := h.ro (W.heap.size - 1) W.heap[W.heap.size - 1] (by show W.heap[W.heap.size - 1]? = _; simp)
      have h2 : W'.heap[W.heap.size - 1]? = some W.heap[W.heap.size - 1] := h1
      have := (Array.getElem?_eq_some_iff.1 h2).1
      omega
  block := fun k hk => by
    have h1 := h.ro k W.heap[k] (by show W.heap[k]? = _; simp [hk])
    rw [show W'.heap[k]? = some W.heap[k] from h1]
    simp [hk]
theorem rda_cell {W : World} {b o : Nat} {v : Value} (h : W.cell? ⟨b, o, none⟩ = some v) (g : Hp) : rda b o [v] (kapOf W) g := by
  unfold World.cell? at h
  split at h
  · rename_i c T fz hc
    simp only [Option.isSome_none, Bool.false_eq_true, if_false] at h
    obtain ⟨ho, hv⟩ := Array.getElem?_eq_some_iff.1 h
    refine ⟨T, c.toList.take o, c.toList.drop (o + 1), fz, by simp; omega, ?_⟩
    show W.heap[b]? = _
    simp only at hc
    rw [hc]
    congr 2
    apply Array.toList_inj.1
    simp only [List.singleton_append]
    rw [← hv]
    simp only [← Array.getElem_toList]
    rw [← List.drop_eq_getElem_cons (by simpa using ho), List.take_append_drop]
  · cases h
theorem rda_var {P : Program} {W : World} {n : String} {gi : Nat} {cs : Array Value} {l : List Value} (hg : P.globalNamed n = some gi) (h : W.var? P n = some cs) (hl : cs.toList = l) (g : Hp) : rda gi 0 l (kapOf W) g := by
  simp only [World.var?, hg, Option.bind_some] at h
  split at h
  · rename_i c T fz hc
    cases h
    refine ⟨T, [], [], fz, rfl, ?_⟩
    show W.heap[gi]? = _
    rw [hc, ← hl]
    simp
  · cases h
end Go.Proofs.YtpcechnalfaajaaDoor

/- What the condition on the laid variables gives; a law's end. -/
namespace Go.Proofs.YtpcechnalfaajaaDoor
open Go Go.Proofs Go.ChangeShapes Go.WideShapes Go.ChangeAt Go.WideMaps Go.WideElems Go.RowKit

theorem own : ownKnob Tryd.prog.godebug = none := by kernel_rfl
theorem laidOut : laidOutB Tryd.prog = true := by kernel_rfl
def laid4 : List (String × DataW Unit) := [("pacioli/sha.rounds", Rows.laid_pacioli_sha_rounds), ("pacioli/sha.start", Rows.laid_pacioli_sha_start), ("pacioli/history.leafMark", Rows.laid_pacioli_history_leafMark), ("pacioli/history.nodeMark", Rows.laid_pacioli_history_nodeMark)]
theorem gRounds : Tryd.prog.globalNamed "pacioli/sha.rounds" = some 3 := by kernel_rfl
theorem gStart : Tryd.prog.globalNamed "pacioli/sha.start" = some 2 := by kernel_rfl
theorem gLeaf : Tryd.prog.globalNamed "pacioli/history.leafMark" = some 0 := by kernel_rfl
theorem gNode : Tryd.prog.globalNamed "pacioli/history.nodeMark" = some 1 := by kernel_rfl
theorem tRounds : (Tryd.prog.globals[3]?).map (·.type) = some 160 := by kernel_rfl
theorem tStart : (Tryd.prog.globals[2]?).map (·.type) = some 157 := by kernel_rfl
theorem tLeaf : (Tryd.prog.globals[0]?).map (·.type) = some 141 := by kernel_rfl
theorem tNode : (Tryd.prog.globals[1]?).map (·.type) = some 141 := by kernel_rfl
theorem of_laid {W : World} (h : laidMetH Tryd.prog laid4 W) : Laid (kapOf W) := by
  rw [MakeChecks.laidMetH_plain _ _ _ (by kernel_rfl)] at h
  obtain ⟨ps, ⟨g0, t0, cs0, f0, p0, q0, hg0, ht0, hv0, hd0, ⟨g1, t1, cs1, f1, p1, q1, hg1, ht1, hv1, hd1, ⟨g2, t2, cs2, f2, p2, q2, hg2, ht2, hv2, hd2, ⟨g3, t3, cs3, f3, p3, q3, hg3, ht3, hv3, hd3, _, _⟩, _⟩, _⟩, _⟩, _, _⟩ := h
  obtain rfl := Option.some.inj (gRounds.symm.trans hg0)
  obtain rfl := Option.some.inj (gStart.symm.trans hg1)
  obtain rfl := Option.some.inj (gLeaf.symm.trans hg2)
  obtain rfl := Option.some.inj (gNode.symm.trans hg3)
  obtain rfl := Option.some.inj (tRounds.symm.trans ht0)
  obtain rfl := Option.some.inj (tStart.symm.trans ht1)
  obtain rfl := Option.some.inj (tLeaf.symm.trans ht2)
  obtain rfl := Option.some.inj (tNode.symm.trans ht3)
  have e0 := arr_lits (n := 64) (e := 156) (k := .u32) (L := roundsI) (by kernel_rfl) (by kernel_rfl) (by kernel_rfl) (by kernel_rfl) hd0
  have e1 := arr_lits (n := 8) (e := 156) (k := .u32) (L := startI) (by kernel_rfl) (by kernel_rfl) (by kernel_rfl) (by kernel_rfl) hd1
  obtain ⟨b2, o2, c2, h2, hs2, hc2⟩ := one_lit (e := 5) (k := .u8) (by kernel_rfl) (by kernel_rfl) (by kernel_rfl) hd2
  obtain ⟨b3, o3, c3, h3, hs3, hc3⟩ := one_lit (e := 5) (k := .u8) (by kernel_rfl) (by kernel_rfl) (by kernel_rfl) hd3
  exact { rounds := fun g => rda_var hg0 hv0 e0 g, start := fun g => rda_var hg1 hv1 e1 g, leaf := ⟨b2, o2, c2, h2, fun g => rda_var hg2 hv2 hs2 g, fun g => rda_cell hc2 g⟩, node := ⟨b3, o3, c3, h3, fun g => rda_var hg3 hv3 hs3 g, fun g => rda_cell hc3 g⟩ }
theorem door_met (os : Os) (args : Array Value) : laidMetH Tryd.prog laid4 ((World.doorLaid Tryd.prog 4000 os).forCall (fun _ _ => 0) ⟨#[], args, []⟩).memory :=
  laidMetH_of_parts3 (fuel := 8) (laidMet_of_run' 8 (by kernel_rfl) (by kernel_rfl)) (by kernel_rfl) (by kernel_rfl)
end Go.Proofs.YtpcechnalfaajaaDoor

/- A law's end: it returned true, its arguments read as before. -/
namespace Go.Proofs.YtpcechnalfaajaaDoor
open Go Go.Proofs Go.ChangeShapes Go.WideShapes Go.ChangeAt Go.WideMaps Go.WideElems Go.RowKit

theorem trodAll_below {H : Type} {enc : TypeId × Value → H} {P : Program} (hl : laidOutB P = true) {W W' : World} (hb : Below W.heap.size W W') : ∀ {ts : List TypeId} {vs : List Value} {ds : List (DataW H)} {ps : List MemPlace}, (∀ t ∈ ts, P.readableRec t = true ∧ t < P.types.size) →
    DataW.TrodAll enc P W 0 (fun _ => true) true ts vs ds ps → (∀ x ∈ ps, x.block < W.heap.size) → DataW.TrodAll enc P W' 0 (fun b => decide (b < W.heap.size)) true ts vs ds ps
  | [], _, _, _, _, h, _ => by
    obtain ⟨rfl, rfl, rfl⟩ := trodAll_nil h
    exact rfl
  | t :: ts, _, _, _, ht, h, hlt => by
    obtain ⟨v, vs, d, ds, p, q, rfl, rfl, rfl, h1, h2⟩ := trodAll_cons h
    exact ⟨p, q, Below.trod hl (ht t (List.mem_cons_self ..)).1 (ht t (List.mem_cons_self ..)).2 h1 hb (fun x hx => hlt x (List.mem_append_left _ hx)),
      trodAll_below hl hb (fun t h => ht t (List.mem_cons_of_mem _ h)) h2 (fun x hx => hlt x (List.mem_append_right _ hx)), rfl⟩
theorem post_true {H : Type} {enc : TypeId × Value → H} {P : Program} {f : Func} {s : ChangeSpec} {apart handsOn : Bool} {W W' : World} {args : Array Value} {ds gs : List (DataW H)} {before : List MemPlace} (hl : laidOutB P = true)
    (hW : DataW.Whole enc P f.params.toList s.vars apart W args.toList ds gs before) (hv : s.vars = []) (hfn : s.fn H ds = { results := [.lit (.bool true)], args := ds }) (hb : Below W.heap.size W W')
    (hread : ∀ t ∈ f.params.toList, P.readableRec t = true ∧ t < P.types.size) {tb : TypeId} (hr : f.resultTypes = #[tb]) (htb : P.underlying tb = some .bool) : s.post enc P f apart true handsOn false W args (.bool true) W' := by
  have hW' := hW
  obtain ⟨p, q, hA, hV, hpq, hz, hn⟩ := hW
  rw [hv] at hV
  obtain ⟨rfl, rfl⟩ := trodVars_none hV
  have hlt : ∀ x ∈ p, x.block < W.heap.size := fun x hx => hW'.lt x (by rw [hpq]; simpa using hx)
  refine ⟨ds, [], before, [], p, [], hW', ?_, ?_, ?_, ?_, fun h => by cases h⟩
  · rw [List.append_nil, hfn, hr]
    exact trodAll_mk1 (shut_bool htb _)
  · rw [List.append_nil, hfn]
    exact trodAll_below hl hb hread hA hlt
  · rw [List.append_nil, hfn, hv]
    exact rfl
  · exact Below.frame hb _
/-- A number handed over. -/
theorem num_of_ok {P : Program} {w : World} {r : Reach} {base : Nat} {T u : TypeId} {v : Value} (hT : (match P.underlying T with | some (.struct _) => true | _ => false) = true) (hc : P.cellsOf T = 2) (hts : P.cellTypes P.depth T = some [u, u]) (hu : P.underlying u = some (.int .u64))
    (h : Value.okWide P w r base T v) : ∃ n : Num, v = .agg (nm n).toArray := by
  unfold Value.okWide at h
  have hT2 : ∃ fs, P.underlying T = some (.struct fs) := by
    revert hT
    cases P.underlying T with
    | none => intro h; cases h
    | some d =>
      cases d with
      | struct fs => intro _; exact ⟨fs, rfl⟩
      | _ => intro h; cases h
  obtain ⟨fs, hT2⟩ := hT2
  rw [hT2] at h
  obtain ⟨cs, rfl, hsz, ts, hts', _, hcell⟩ := h
  rw [hts] at hts'
  cases hts'
  rw [hc] at hsz
  have one : ∀ i, i < 2 → ∃ z : Int, cs[i]? = some (.int .u64 z) ∧ 0 ≤ z ∧ z < 18446744073709551616 := by
    intro i hi
    have hi2 : i < cs.size := by omega
    obtain ⟨t, ht, hk⟩ := hcell i cs[i] (by simp [hi2])
    have htu : t = u := by
      have : i % 2 = 0 ∨ i % 2 = 1 := by omega
      rcases this with h | h <;> (simp [h] at ht; exact ht.symm)
    subst htu
    unfold Cell.okWide at hk
    rw [hu] at hk
    have hk : Cell.ok P w r base t cs[i] := hk
    unfold Cell.ok at hk
    rw [hu] at hk
    have hg : cs[i]? = some cs[i] := by simp [hi2]
    rw [hg]
    generalize cs[i] = x at *
    cases x with
    | int k z =>
      obtain ⟨rfl, h1, h2⟩ := hk
      exact ⟨z, rfl, h1, by have : z ≤ 18446744073709551615 := h2; omega⟩
    | _ => exact absurd hk (by simp)
  obtain ⟨z0, h0, a0, b0⟩ := one 0 (by omega)
  obtain ⟨z1, h1, a1, b1⟩ := one 1 (by omega)
  refine ⟨BitVec.ofNat 128 (z0.toNat * 18446744073709551616 + z1.toNat), ?_⟩
  have hlt : z0.toNat * 18446744073709551616 + z1.toNat < 340282366920938463463374607431768211456 := by omega
  have hn : (BitVec.ofNat 128 (z0.toNat * 18446744073709551616 + z1.toNat)).toNat = z0.toNat * 18446744073709551616 + z1.toNat := by
    rw [BitVec.toNat_ofNat]
    exact Nat.mod_eq_of_lt (by omega)
  congr 1
  have hnm : nm (BitVec.ofNat 128 (z0.toNat * 18446744073709551616 + z1.toNat)) = [.int .u64 z0, .int .u64 z1] := by
    unfold nm
    rw [hn]
    have e0 : (z0.toNat * 18446744073709551616 + z1.toNat) / 18446744073709551616 = z0.toNat := by omega
    have e1 : (z0.toNat * 18446744073709551616 + z1.toNat) % 18446744073709551616 = z1.toNat := by omega
    rw [e0, e1, Int.toNat_of_nonneg a0, Int.toNat_of_nonneg a1]
  rw [hnm]
  apply Array.ext
  · simp [hsz]
  · intro i hi1 hi2
    have : i = 0 ∨ i = 1 := by simp at hi2; omega
    rcases this with rfl | rfl
    · have : cs[0] = .int .u64 z0 := by simpa [hi1] using h0
      simp [this]
    · have : cs[1] = .int .u64 z1 := by simpa [hi1] using h1
      simp [this]
/-- An int handed over. -/
theorem int_of_ok {P : Program} {w : World} {r : Reach} {base : Nat} {T : TypeId} {v : Value} (hT : P.underlying T = some (.int .i64)) (h : Value.okWide P w r base T v) : ∃ z : Int, v = .int .i64 z ∧ -9223372036854775808 ≤ z ∧ z ≤ 9223372036854775807 := by
  unfold Value.okWide at h
  rw [hT] at h
  have h : Cell.okWide P w r base T v := h
  unfold Cell.okWide at h
  rw [hT] at h
  have h : Cell.ok P w r base T v := h
  unfold Cell.ok at h
  rw [hT] at h
  cases v with
  | int k z =>
    obtain ⟨rfl, h1, h2⟩ := h
    exact ⟨z, rfl, h1, h2⟩
  | _ => exact absurd h (by simp)
theorem bool_of_ok {P : Program} {w : World} {r : Reach} {base : Nat} {T : TypeId} {v : Value} (hT : P.underlying T = some .bool) (h : Value.okWide P w r base T v) : ∃ b : Bool, v = .bool b := by
  unfold Value.okWide at h
  rw [hT] at h
  have h : Cell.okWide P w r base T v := h
  unfold Cell.okWide at h
  rw [hT] at h
  have h : Cell.ok P w r base T v := h
  unfold Cell.ok at h
  rw [hT] at h
  cases v with
  | bool b => exact ⟨b, rfl⟩
  | _ => exact absurd h (by simp)
end Go.Proofs.YtpcechnalfaajaaDoor

/- EngineClosed: the row and the card. -/
namespace Go.Proofs.YtpcechnalfaajaaDoor
open Go Go.Proofs Go.ChangeShapes Go.WideShapes Go.ChangeAt Go.WideMaps Go.WideElems Go.RowKit

set_option maxRecDepth 100000 in
theorem closed_lifted (os : Os) (started : os.Started) (H : Type) (enc : TypeId × Value → H) :
    ReturnsInHanded {} Tryd.checked os 6 .any (fun w args => (Rows.engineClosedSpec.pre enc Tryd.prog Tryd.f6 [] false w args ∧ laidMetH Tryd.prog laid4 w) ∧ sizedMet enc Tryd.prog Tryd.f6 (OpenSpec.ofChange Rows.engineClosedSpec) false w args)
      (Rows.engineClosedSpec.post enc Tryd.prog Tryd.f6 false true false false) := by
  refine returnsInHanded_of_change_and (C := Tryd.checked) (X := fun w _ => laidMetH Tryd.prog laid4 w) (fun _ _ _ hh h => h.of_heap hh) own started (by kernel_rfl) Tryd.func6
    (ChangeSpec.witness_shaped (enc := enc) (C := Tryd.checked) (os := os) (X := fun w _ => laidMetH Tryd.prog laid4 w) false (World.doorLaid Tryd.prog 4000 os) #[.bool false, .bool false, .agg #[.int .u64 0, .int .u64 0]] 8 rfl (World.shaped_of_RefB (by kernel_rfl) (by kernel_rfl)) (by kernel_rfl) (by kernel_rfl) (by kernel_rfl) (door_met os _)) ?_
  intro W base args ds gs before hval0 hW _ _ hL _
  have hval : ∀ (j : Nat) t v, (Tryd.f6).params[j]? = some t → args[j]? = some v → Value.okWide Tryd.prog W .any base t v := hval0
  have hW' := hW
  obtain ⟨p, q, hA0, hV, rfl, hfz, hnd⟩ := hW
  have hA : DataW.TrodAll enc Tryd.prog W 0 (fun _ => true) true (Tryd.f6).params.toList args.toList ds p := hA0
  rw [Tryd.params6] at hA hval
  obtain ⟨v0, v1, v2, d0, d1, d2, p0, p1, p2, rfl, rfl, rfl, h0, h1, h2⟩ := trodAll_three hA
  obtain ⟨side, rfl⟩ := bool_of_ok (T := 4) (by kernel_rfl) (hval 0 _ _ rfl rfl)
  obtain ⟨how, rfl⟩ := bool_of_ok (T := 4) (by kernel_rfl) (hval 1 _ _ rfl rfl)
  obtain ⟨n, rfl⟩ := num_of_ok (T := 24) (u := 22) (by kernel_rfl) (by kernel_rfl) (by kernel_rfl) (by kernel_rfl) (hval 2 _ _ rfl rfl)
  refine (closed_tr side how n (kapOf W) (of_laid hL) [] W (sat_of W)).mono fun e W' ⟨he, hs⟩ => ?_
  subst he
  refine ⟨_, rfl, post_true (tb := 4) laidOut hW' rfl rfl (below_of hs) ?_ (by kernel_rfl) (by kernel_rfl)⟩
  rw [Tryd.params6]
  intro t ht
  have hall : ([4, 4, 24].all fun u => Tryd.prog.readableRec u && decide (u < Tryd.prog.types.size)) = true := by kernel_rfl
  have h5 := List.all_eq_true.1 hall t ht
  rw [Bool.and_eq_true] at h5
  exact ⟨h5.1, of_decide_eq_true h5.2⟩
theorem engineClosed_holds : Rows.EngineClosedSaid :=
  OpenClaim.holds_of_wide 6 Tryd.f6 rfl rfl rfl rfl rfl rfl rfl ⟨rfl, rfl, rfl, rfl, rfl⟩ rfl rfl rfl rfl rfl (by kernel_rfl) Tryd.func6 (by kernel_rfl)
    (of_decide_eq_true (by kernel_rfl)) (by unfold Func.isWrapper; first | (rw [if_pos (by decide +kernel)]; kernel_rfl) | (rw [if_neg (by decide +kernel)]; exact ⟨rfl, rfl⟩))
    (fun os started H enc _ => closed_lifted os started H enc)
theorem engineClosedCard_holds : Rows.EngineClosedCardSaid :=
  Claim7.holds_tied_plain_at .later [] [.data, .data, .widerDeep, .widerDeep] true (true, "de20976bb9abc0c7ddf704fc18d7d4f424036e793db8338a9ccbe2b467d619fd") false
    engineClosed_holds (fun _ h => by cases h) (by kernel_rfl) (fun _ h => by cases h) engineClosed_row_tie rfl ⟨rfl, rfl⟩ (by kernel_rfl) rfl
    (fun f fn hf hfn => by
      obtain rfl : f = 6 := Option.some.inj ((show Tryd.prog.funcNamed "pacioli/paciolilaw11.EngineClosed" = some 6 by kernel_rfl).symm.trans hf) |>.symm
      obtain rfl : fn = Tryd.f6 := (Option.some.inj (Tryd.func6.symm.trans hfn)).symm
      exact ⟨by kernel_rfl, fun j t ht => by
        rw [Tryd.params6] at ht
        have hm : t ∈ [4, 4, 24] := by simpa using Array.mem_of_getElem? ht
        have hall : ([4, 4, 24].all fun u => !Tryd.prog.wantsStandIn u) = true := by kernel_rfl
        exact (show Tryd.prog.wantsStandIn t = false by simpa using List.all_eq_true.1 hall t hm)⟩)
    (by kernel_rfl)
#print axioms engineClosedCard_holds
end Go.Proofs.YtpcechnalfaajaaDoor
