/- Part 9 of the proof: V35, V36, U42, V37, U43, V38, V39, V40. -/
import Derived.Test.YtpcechnalfaajaaDoorP8
import Derived.Test.YtpcechnalfaajaaDoorP7
import Derived.Test.YtpcechnalfaajaaDoorP5
import Derived.Test.YtpcechnalfaajaaDoorP6
/- More arguments of plain cells. -/
namespace Go.Proofs.YtpcechnalfaajaaDoor
open Go Go.Proofs

theorem num3_of {zs : List Int} (h : RangeOk [.u64, .u64, .u64, .u64, .u64, .u64] zs) : ∃ a b c : Num, zipK [.u64, .u64, .u64, .u64, .u64, .u64] zs = nm a ++ nm b ++ nm c := by
  obtain ⟨x0, _, rfl, h0, h⟩ := RangeOk.cons h
  obtain ⟨x1, _, rfl, h1, h⟩ := RangeOk.cons h
  obtain ⟨x2, _, rfl, h2, h⟩ := RangeOk.cons h
  obtain ⟨x3, _, rfl, h3, h⟩ := RangeOk.cons h
  obtain ⟨x4, _, rfl, h4, h⟩ := RangeOk.cons h
  obtain ⟨x5, _, rfl, h5, h⟩ := RangeOk.cons h
  obtain ⟨a, e1, e2⟩ := u64_num h0 h1
  obtain ⟨b, e3, e4⟩ := u64_num h2 h3
  obtain ⟨c, e5, e6⟩ := u64_num h4 h5
  exact ⟨a, b, c, by rw [h.nil]; simp only [zipK, nm, e1, e2, e3, e4, e5, e6, List.cons_append, List.nil_append]⟩
end Go.Proofs.YtpcechnalfaajaaDoor

/- Steps: the least and the greatest one of two; what may only be read, told by the call's own memory. -/
namespace Go.Proofs.YtpcechnalfaajaaDoor
open Go Go.Proofs

section
variable {P : Program} {l : List Oper} {ops : Array Oper} {Q : Exit → Act → World → Prop} {L : List Nat} {W : List (Nat × Nat × List Value)} {n : Nd} {κ : Kap} {fuel : Nat} {done : List Nat} {fr : List (Nat × Value)} {cs : List HProp} {rest : List Oper} {is : List Nat} {pend : List Pd}
variable {d : Nat} {dst : Option Nat} {op : Op} {ty : TypeId} {pos : String} {af : Array Edge} {g : Option (Nat × Bool)} {x y : Operand} {a b : Int} {k j : IntKind} {ts : Array TypeId}
def minI (a b : Int) : Int := if b < a then b else a
def maxI (a b : Int) : Int := if a < b then b else a
theorem OpQ.min (hx : ev fr x = some (.int k a)) (hy : ev fr y = some (.int j b)) : OpQ P n ⟨dst, .call ⟨.builtin .min, #[x, y], ts⟩, ty, pos, af, g⟩ fr (.int k (minI a b)) := by
  intro s w hf
  simp [execOp, resolve, hf.eval hx, hf.eval hy, invoke, builtin, Builtin.min_, Builtin.min2, minI]
theorem OpQ.max (hx : ev fr x = some (.int k a)) (hy : ev fr y = some (.int j b)) : OpQ P n ⟨dst, .call ⟨.builtin .max, #[x, y], ts⟩, ty, pos, af, g⟩ fr (.int k (maxI a b)) := by
  intro s w hf
  simp [execOp, resolve, hf.eval hx, hf.eval hy, invoke, builtin, Builtin.max_, Builtin.max2, maxI]
theorem St.mn (kk : St P ops Q n κ rest ((d, .int k (minI a b)) :: fr) cs) (h : ev fr x = some (.int k a) ∧ ev fr y = some (.int j b) := by exact ⟨rfl, rfl⟩) (hd : Nat.blt d n.n = true := by rfl) (hw : wantedF ops fr g true = true := by rfl) :
    St P ops Q n κ (⟨some d, .call ⟨.builtin .min, #[x, y], ts⟩, ty, pos, af, g⟩ :: rest) fr cs := .q (.min h.1 h.2) kk hd hw
theorem St.mx (kk : St P ops Q n κ rest ((d, .int k (maxI a b)) :: fr) cs) (h : ev fr x = some (.int k a) ∧ ev fr y = some (.int j b) := by exact ⟨rfl, rfl⟩) (hd : Nat.blt d n.n = true := by rfl) (hw : wantedF ops fr g true = true := by rfl) :
    St P ops Q n κ (⟨some d, .call ⟨.builtin .max, #[x, y], ts⟩, ty, pos, af, g⟩ :: rest) fr cs := .q (.max h.1 h.2) kk hd hw
theorem Sd.mn (i : Nat) (kk : Sd P l Q L W n κ fuel (i :: done) ((d, .int k (minI a b)) :: fr) cs) (hi : getO l i = some ⟨some d, .call ⟨.builtin .min, #[x, y], ts⟩, ty, pos, af, g⟩ := by rfl) (h : ev fr x = some (.int k a) ∧ ev fr y = some (.int j b) := by exact ⟨rfl, rfl⟩)
    (hd : Nat.blt d n.n = true := by rfl) (hw : wantedF l.toArray fr g true = true := by rfl) (hchk : chkQ l done i = true := by kernel_rfl) : Sd P l Q L W n κ (fuel + 1) done fr cs := .q i hi (.min h.1 h.2) kk hd hw hchk
theorem Sd.mx (i : Nat) (kk : Sd P l Q L W n κ fuel (i :: done) ((d, .int k (maxI a b)) :: fr) cs) (hi : getO l i = some ⟨some d, .call ⟨.builtin .max, #[x, y], ts⟩, ty, pos, af, g⟩ := by rfl) (h : ev fr x = some (.int k a) ∧ ev fr y = some (.int j b) := by exact ⟨rfl, rfl⟩)
    (hd : Nat.blt d n.n = true := by rfl) (hw : wantedF l.toArray fr g true = true := by rfl) (hchk : chkQ l done i = true := by kernel_rfl) : Sd P l Q L W n κ (fuel + 1) done fr cs := .q i hi (.max h.1 h.2) kk hd hw hchk
theorem SdP.mn (i : Nat) (kk : SdP P l Q L W n κ is pend fuel (i :: done) ((d, .int k (minI a b)) :: fr) cs) (hi : getO l i = some ⟨some d, .call ⟨.builtin .min, #[x, y], ts⟩, ty, pos, af, g⟩ := by rfl) (h : ev fr x = some (.int k a) ∧ ev fr y = some (.int j b) := by exact ⟨rfl, rfl⟩)
    (hd : Nat.blt d n.n = true := by rfl) (hw : wantedF l.toArray fr g true = true := by rfl) (hchk : (chkQs l is done i && !memb d (pend.map (·.d)) && offF fr pend) = true := by kernel_rfl) : SdP P l Q L W n κ is pend (fuel + 1) done fr cs := .q i hi (.min h.1 h.2) kk hd hw hchk
end
/-- The call's own memory. -/
def isK (κ0 : Kap) : HProp := fun κ _ => κ = κ0
theorem Sat.isK {κ : Kap} {w : World} {cs : List HProp} (h : Sat κ w cs) : Sat κ w (isK κ :: cs) :=
  h.imp fun g hg => ⟨fun _ => none, g, fun _ _ e => by (cases e), Sub.refl _, fun _ => .inl rfl, rfl, hg⟩
def RdK (κ : Kap) (p : Option Addr) (l : List Value) : Prop := l = [] ∨ ∃ b o, p = some ⟨b, o, none⟩ ∧ ∀ g, rda b o l κ g
theorem RdAt.ofK {κ0 : Kap} {b o : Nat} {l : List Value} {cs : List HProp} (h : ∀ g, rda b o l κ0 g) : RdAt b (Go.Proofs.YtpcechnalfaajaaDoor.isK κ0 :: cs) o l where
  out := fun {κ w} hs _ => by
    obtain ⟨g, _, _, h1, h2, _, _, _, hk, _⟩ := hs.ex
    have hk : κ = κ0 := hk
    subst hk
    obtain ⟨T, pre, sp, fz, hp, he⟩ := h g
    exact ⟨T, pre, sp, fz, hp, hs.ro b _ he⟩
theorem RdK.rds {κ : Kap} {p : Option Addr} {l : List Value} (h : RdK κ p l) (cs : List HProp) : RdS (isK κ :: cs) p l := by
  rcases h with h | ⟨b, o, hp, hr⟩
  · exact .inl h
  · exact .inr ⟨b, o, hp, .ofK hr⟩
/-- Requests that are handed over. -/
structure ReqsOk (κ : Kap) (p : Option Addr) (L : List Req) : Prop where
  rd : RdK κ p (L.flatMap reqC)
  ac : ∀ q ∈ L, RdK κ q.pa (q.accs.flatMap encA) ∧ q.accs.length ≤ q.ca
  tr : ∀ q ∈ L, RdK κ q.pt (q.trs.flatMap encT) ∧ q.trs.length ≤ q.ct
  fr : ∀ q ∈ L, -9223372036854775808 ≤ q.from_ ∧ q.from_ ≤ 9223372036854775807
/-- Are requests few? -/
def lightL (L : List Req) : Bool := decide (L.length ≤ 60) && L.all fun q => decide (addK .i64 q.accs.length q.trs.length ≤ 30)
theorem light_60 {L : List Req} (h : lightL L = true) : L.length ≤ 60 := by
  unfold lightL at h
  rw [Bool.and_eq_true] at h
  exact of_decide_eq_true h.1
/-- A batch of no more events than may be, or a tick. -/
def tameR (q : Req) : Req := { q with kind := 1 + (band q.kind 255).tmod 3, accs := q.accs.take 8, trs := q.trs.take 8 }
end Go.Proofs.YtpcechnalfaajaaDoor

/- The laws' Light, Tame. -/
namespace Go.Proofs.YtpcechnalfaajaaDoor
open Go Go.Proofs

theorem reqC_len (q : Req) : (reqC q).length = 8 := rfl
theorem req_get (L : List Req) (k : Nat) (h : k < L.length) : getV true (L.flatMap reqC) (k * 8) 8 = some (.agg (reqC L[k]).toArray) :=
  flat_get reqC 8 reqC_len L k 0 8 true _ h (getV_whole (reqC_len _))
theorem light_tr (L : List Req) (p : Option Addr) (cap : Nat) (_ : L.length ≤ cap) (κ : Kap) (hL : ReqsOk κ p L) (cs : List HProp) : Tr Tryd.prog 26 [.slice p L.length cap] κ cs (.bool (lightL L)) cs := by
  refine .enter Tryd.func26 rfl rfl ?_
  repeat refine .seq ?_
  refine .reg ?_
  refine .as ?_
  refine .go ?_
  repeat refine .seq ?_
  refine .reg ?_
  refine .mv ?_
  refine .ln ?_
  refine .gt ?_
  refine .go ?_
  refine .cond rfl (fun hc => ?_) (fun hc => ?_)
  · have h : ¬ L.length ≤ 60 := by have : (60 : Int) < L.length := of_decide_eq_true hc; omega
    have hl : lightL L = false := by unfold lightL; rw [decide_eq_false h]; rfl
    rw [hl]
    repeat refine .seq ?_
    refine .reg ?_
    refine .as ?_
    refine .go ?_
    refine .r1 fun w hs => ?_
    exact ⟨rfl, hs⟩
  have h60 : L.length ≤ 60 := by have : ¬ (60 : Int) < L.length := of_decide_eq_false hc; omega
  refine .go ?_
  repeat refine .seq ?_
  refine .reg ?_
  refine .mv ?_
  refine .ln ?_
  refine .mv ?_
  refine .go ?_
  repeat refine .seq ?_
  refine .block ?_
  refine .lp (fun k : Nat => [(2, .bool false), (8, .slice p L.length cap), (9, .int .i64 L.length), (10, .int .i64 k)]) (fun _ => cs) (fun k => k ≤ L.length ∧ ∀ j (h : j < L.length), j < k → addK .i64 L[j].accs.length L[j].trs.length ≤ 30) (fun k => L.length - k) 0 ⟨Nat.zero_le _, fun j _ h => absurd h (Nat.not_lt_zero j)⟩ (by repeat (first | exact trivial | refine ⟨rfl, ?_⟩)) rfl fun k hk => ?_
  obtain ⟨hk, hall⟩ := hk
  repeat refine .seq ?_
  refine .reg ?_
  refine .lt ?_
  refine .go ?_
  repeat refine .seq ?_
  refine .cond rfl (fun hc => ?_) (fun hc => ?_)
  · have hkl : k < L.length := by have : (k : Int) < L.length := of_decide_eq_true hc; omega
    rcases hL.rd with h | ⟨b, o, rfl, hr⟩
    · exfalso
      have := congrArg List.length h
      rw [flat_len reqC 8 reqC_len] at this
      simp at this; omega
    refine .sat (cs' := isK κ :: cs) (fun w hs => hs.isK) ?_
    haveI : RdAt b (isK κ :: cs) o (L.flatMap reqC) := .ofK hr
    refine .go ?_
    repeat refine .seq ?_
    refine .block ?_
    repeat refine .seq ?_
    refine .reg ?_
    refine .ix ?_
    refine .lx (req_get L k hkl) ?_
    generalize hq : L[k] = q at *
    refine .al fun b4 => ?_
    refine .stw (v := .agg (reqC q).toArray) ?_
    rw [vc_agg]
    refine .go ?_
    repeat refine .seq ?_
    refine .reg ?_
    refine .fa ?_
    refine .ld (v := .slice q.pa q.accs.length q.ca) ?_
    refine .ln ?_
    refine .fa ?_
    refine .ld (v := .slice q.pt q.trs.length q.ct) ?_
    refine .ln ?_
    refine .adw ?_
    refine .gt ?_
    refine .go ?_
    refine .cond rfl (fun hc => ?_) (fun hc => ?_)
    · have hbad : ¬ addK .i64 q.accs.length q.trs.length ≤ 30 := by have : (30 : Int) < addK .i64 q.accs.length q.trs.length := of_decide_eq_true hc; omega
      have hl : lightL L = false := by
        unfold lightL
        rw [Bool.and_eq_false_iff]
        right
        rw [List.all_eq_false]
        exact ⟨q, by rw [← hq]; exact List.getElem_mem hkl, by simpa using hbad⟩
      rw [hl]
      repeat refine .seq ?_
      refine .reg ?_
      refine .as ?_
      refine .go ?_
      refine .r1 fun w hs => ?_
      exact ⟨rfl, hs.rows.rows⟩
    · have hgood : addK .i64 q.accs.length q.trs.length ≤ 30 := by have : ¬ (30 : Int) < addK .i64 q.accs.length q.trs.length := of_decide_eq_false hc; omega
      refine .go ?_
      refine .reg ?_
      refine .ad ?_
      refine .mv ?_
      refine .nil fun aa w hf hs => ⟨k + 1, ⟨hkl, fun j hj h => ?_⟩, by omega, hf.to (by repeat (first | exact trivial | refine ⟨rfl, ?_⟩)), hs.rows.rows⟩
      rcases Nat.lt_or_ge j k with h1 | h1
      · exact hall j hj h1
      · have : j = k := by omega
        subst this
        rw [hq]; exact hgood
  · have hkl : k = L.length := by have : ¬ (k : Int) < L.length := of_decide_eq_false hc; omega
    have hl : lightL L = true := by
      unfold lightL
      rw [Bool.and_eq_true]
      refine ⟨decide_eq_true h60, List.all_eq_true.2 fun q hq => ?_⟩
      obtain ⟨j, hj, rfl⟩ := List.getElem_of_mem hq
      exact decide_eq_true (hall j hj (by omega))
    rw [hl]
    refine .xgo ?_
    repeat refine .seq ?_
    refine .reg ?_
    refine .as ?_
    refine .go ?_
    refine .r1 fun w hs => ?_
    exact ⟨rfl, hs⟩
theorem min_eight {α : Type} (l : List α) : minI (l.length : Int) 8 = ((l.take 8).length : Int) := by
  unfold minI
  rw [List.length_take]
  split <;> omega
theorem slc_zero (c m : Nat) (p : Option Addr) : (if c = 0 then p else p.map (·.add (0 * m))) = p := by
  split
  · rfl
  · cases p with
    | none => rfl
    | some a =>
      simp only [Option.map_some, Nat.zero_mul, Option.some.injEq]
      unfold Addr.add
      split <;> simp_all
theorem band255 (w : Int) : 0 ≤ band w 255 ∧ band w 255 ≤ 255 := by
  have h : (BitVec.ofInt 64 w &&& BitVec.ofInt 64 255).toNat ≤ 255 := by
    rw [BitVec.toNat_and]
    exact Nat.and_le_right
  have hw : IntKind.i64.wrap ((BitVec.ofInt 64 w &&& BitVec.ofInt 64 255).toNat : Int) = ((BitVec.ofInt 64 w &&& BitVec.ofInt 64 255).toNat : Int) := wrap_in (by omega)
  show 0 ≤ IntKind.i64.wrap ((BitVec.ofInt 64 w &&& BitVec.ofInt 64 255).toNat : Int) ∧ IntKind.i64.wrap ((BitVec.ofInt 64 w &&& BitVec.ofInt 64 255).toNat : Int) ≤ 255
  rw [hw]
  omega
theorem tame_tr (q : Req) (ha : q.accs.length ≤ q.ca) (ht : q.trs.length ≤ q.ct) (κ : Kap) (cs : List HProp) : Tr Tryd.prog 27 [.agg (reqC q).toArray] κ cs (.agg (reqC (tameR q)).toArray) cs := by
  refine .enter Tryd.func27 rfl rfl ?_
  repeat refine .seq ?_
  refine .reg ?_
  refine .bx fun b1 => ?_
  refine .al fun b2 => ?_
  refine .go ?_
  repeat refine .seq ?_
  rw [vc_agg]
  refine .regD [(b1, 0, reqC q)] [15, 17] ?_
  refine .fa 0 ?_
  refine .ld 1 (v := .slice q.pa q.accs.length q.ca) ?_
  refine .fa 2 ?_
  refine .ld 3 (v := .slice q.pa q.accs.length q.ca) ?_
  refine .ln 4 ?_
  refine .mn 5 ?_
  rw [min_eight]
  refine .slc 0 (q.accs.take 8).length 6 ?_ (h2 := by rw [List.length_take]; omega)
  rw [slc_zero, Nat.sub_zero, Nat.sub_zero]
  refine .fa 7 ?_
  refine .ld 8 (v := .slice q.pt q.trs.length q.ct) ?_
  refine .fa 9 ?_
  refine .ld 10 (v := .slice q.pt q.trs.length q.ct) ?_
  refine .ln 11 ?_
  refine .mn 12 ?_
  rw [min_eight]
  refine .slc 0 (q.trs.take 8).length 13 ?_ (h2 := by rw [List.length_take]; omega)
  rw [slc_zero, Nat.sub_zero, Nat.sub_zero]
  refine .fa 14 ?_
  refine .sx 15 (r' := reqC { q with accs := q.accs.take 8 }) rfl ?_
  refine .fa 16 ?_
  refine .sx 17 (r' := reqC { q with accs := q.accs.take 8, trs := q.trs.take 8 }) rfl ?_
  refine .go ?_
  repeat refine .seq ?_
  refine .reg ?_
  refine .fa ?_
  refine .ld (v := .int .i64 q.kind) ?_
  refine .an ?_
  refine .rem ?_ (hb := by decide)
  have h3 : 0 ≤ (bandK .i64 q.kind 255).tmod 3 ∧ (bandK .i64 q.kind 255).tmod 3 < 3 := by
    have : 0 ≤ bandK .i64 q.kind 255 ∧ bandK .i64 q.kind 255 ≤ 255 := band255 q.kind
    rw [Int.tmod_eq_emod_of_nonneg this.1]
    omega
  have hk : (tameR q).kind = 1 + (band q.kind 255).tmod 3 := rfl
  refine .ad ?_
  refine .fa ?_
  refine .sx (r' := reqC (tameR q)) rfl ?_
  refine .go ?_
  repeat refine .seq ?_
  refine .reg ?_
  refine .ldw ?_
  refine .stw (v := .agg (reqC (tameR q)).toArray) ?_
  rw [vc_agg]
  refine .go ?_
  refine .r1w fun w hs => ?_
  exact ⟨rfl, hs.rows.rows⟩
end Go.Proofs.YtpcechnalfaajaaDoor

/- Accounts are compared. -/
namespace Go.Proofs.YtpcechnalfaajaaDoor
open Go Go.Proofs

theorem rowEq_of : ∀ (xs ys : List Value), rowAs xs ys = true → (rowEq xs ys = true ↔ xs = ys) := by
  intro xs
  induction xs with
  | nil => intro ys h; cases ys with
    | nil => simp [rowEq]
    | cons y u => cases h
  | cons x t ih => intro ys h; cases ys with
    | nil => cases h
    | cons y u =>
      simp only [rowAs, Bool.and_eq_true] at h
      simp only [rowEq, Bool.and_eq_true, List.cons.injEq, ih u h.2]
      have : cellEq x y = true ↔ x = y := by
        have h1 := h.1
        unfold cellAs at h1
        unfold cellEq
        split at h1
        · rw [beq_iff_eq] at h1; subst h1; simp
        · simp
        · cases h1
      rw [this]
theorem rowAs_bytes : ∀ (l m : List UInt8), l.length = m.length → rowAs (l.map fun c => Value.int .u8 (c.toNat : Int)) (m.map fun c => Value.int .u8 (c.toNat : Int)) = true := by
  intro l
  induction l with
  | nil => intro m h; cases m with
    | nil => rfl
    | cons y u => cases h
  | cons x t ih => intro m h; cases m with
    | nil => cases h
    | cons y u =>
      show (true && _) = true
      rw [Bool.true_and]
      exact ih u (by simpa using h)
theorem bytes_inj : ∀ (l m : List UInt8), l.map (fun c => Value.int .u8 (c.toNat : Int)) = m.map (fun c => Value.int .u8 (c.toNat : Int)) → l = m := by
  intro l
  induction l with
  | nil => intro m h; cases m with
    | nil => rfl
    | cons y u => cases h
  | cons x t ih => intro m h; cases m with
    | nil => cases h
    | cons y u =>
      simp only [List.map_cons, List.cons.injEq, Value.int.injEq, true_and] at h
      rw [ih u h.2]
      have : x.toNat = y.toNat := by omega
      rw [UInt8.toNat_inj.1 this]
theorem hcells_inj {a b : Hash} (h : hcells a = hcells b) : a = b := by
  obtain ⟨l, hl⟩ := a
  obtain ⟨m, hm⟩ := b
  have : l = m := bytes_inj l m h
  subst this; rfl
theorem rowAs_h (a b : Hash) : rowAs (hcells a) (hcells b) = true := rowAs_bytes _ _ (by rw [a.len, b.len])
theorem hl_inj {a b : Num} (h1 : ((a.toNat / 18446744073709551616 : Nat) : Int) = ((b.toNat / 18446744073709551616 : Nat) : Int)) (h2 : ((a.toNat % 18446744073709551616 : Nat) : Int) = ((b.toNat % 18446744073709551616 : Nat) : Int)) : a = b := by
  apply BitVec.eq_of_toNat_eq
  omega
theorem encA_inj {a b : Account} (h : encA a = encA b) : a = b := by
  obtain ⟨i, l, f, dp, dq, cp, cq, t, r, ro⟩ := a
  obtain ⟨i', l', f', dp', dq', cp', cq', t', r', ro'⟩ := b
  simp only [encA, List.cons.injEq, Value.int.injEq, true_and] at h
  obtain ⟨a1, a2, a3, a4, a5, a6, a7, a8, a9, b1, b2, b3, b4, b5, b6⟩ := h
  rw [hl_inj a1 a2, a3, a4, hl_inj a5 a6, hl_inj a7 a8, hl_inj a9 b1, hl_inj b2 b3, b4, b5, hcells_inj b6]
theorem rowEq_A (a b : Account) : rowEq (encA a) (encA b) = decide (a = b) := by
  rw [Bool.eq_iff_iff, rowEq_of _ _ (by simp only [encA, rowAs, cellAs, beq_self_eq_true, Bool.true_and]; exact rowAs_h _ _), decide_eq_true_eq]
  exact ⟨encA_inj, fun h => by rw [h]⟩
theorem hcells_range (h : Hash) : ∃ g : Nat → UInt8, hcells h = (List.range 32).map fun i => Value.int .u8 ((g i).toNat : Int) := by
  refine ⟨fun i => h.l.getD i 0, ?_⟩
  unfold hcells
  apply List.ext_getElem
  · simp [h.len]
  · intro i h1 h2
    have : i < h.l.length := by simpa using h1
    simp [List.getD, this]
theorem fit_A (a : Account) : fitT Tryd.prog 20 37 (encA a) = true := by
  obtain ⟨g, hg⟩ := hcells_range a.root
  unfold encA
  rw [hg]
  kernel_rfl
theorem fit_H (h : Hash) : fitT Tryd.prog 20 35 (hcells h) = true := by
  obtain ⟨g, hg⟩ := hcells_range h
  rw [hg]
  kernel_rfl
end Go.Proofs.YtpcechnalfaajaaDoor

/- The laws' alike: two engines. -/
namespace Go.Proofs.YtpcechnalfaajaaDoor
open Go Go.Proofs

theorem eng_as (b : Nat) (e : Eng) (i : EngI) (cs : List HProp) : engO b e i cs = engO b e i [] ++ cs := by simp
theorem eng_swap {κ : Kap} {w : World} {b1 b2 : Nat} {e1 e2 : Eng} {i1 i2 : EngI} {cs : List HProp} (h : Sat κ w (engO b1 e1 i1 (engO b2 e2 i2 cs))) : Sat κ w (engO b2 e2 i2 (engO b1 e1 i1 cs)) := by
  rw [eng_as b1 e1 i1] at h
  rw [eng_as b1 e1 i1 cs]
  exact h.imp fun _ hg => (eng_back (engO b1 e1 i1 [])).1 hg
theorem eng_swapH {κ : Kap} {g : Hp} {b1 b2 : Nat} {e1 e2 : Eng} {i1 i2 : EngI} {cs : List HProp} (h : sepL κ (engO b1 e1 i1 (engO b2 e2 i2 cs)) g) : sepL κ (engO b2 e2 i2 (engO b1 e1 i1 cs)) g := by
  rw [eng_as b1 e1 i1] at h
  rw [eng_as b1 e1 i1 cs]
  exact (eng_back (engO b1 e1 i1 [])).1 h
theorem eng_swap1 {κ : Kap} {w : World} {x : HProp} {b1 b2 : Nat} {e1 e2 : Eng} {i1 i2 : EngI} {cs : List HProp} (h : Sat κ w (x :: engO b1 e1 i1 (engO b2 e2 i2 cs))) : Sat κ w (engO b2 e2 i2 (x :: engO b1 e1 i1 cs)) := by
  rw [eng_as b1 e1 i1] at h
  rw [eng_as b1 e1 i1 cs]
  exact h.imp fun _ hg => (eng_back (x :: engO b1 e1 i1 [])).1 hg
theorem Tr.over {P : Program} {f : FuncId} {args : List Value} {κ : Kap} {b b2 : Nat} {e e2 : Eng} {i i2 : EngI} {cs : List HProp} {v : Value} {x y : HProp} (h : ∀ cs, Tr P f args κ (engO b e i cs) v (engO b e i cs)) : Tr P f args κ (x :: y :: engO b2 e2 i2 (engO b e i cs)) v (x :: y :: engO b2 e2 i2 (engO b e i cs)) := by
  have e : x :: y :: engO b2 e2 i2 (engO b e i cs) = (x :: y :: engO b2 e2 i2 []) ++ engO b e i cs := by simp
  rw [e]
  exact Tr.ef _ (h _)
theorem getL_mem : ∀ {m : List KV}, Srt m → ∀ {k : Num} {v : Int}, (k, v) ∈ m → getL k m = some v := by
  intro m
  induction m with
  | nil => intro _ k v h; cases h
  | cons x t ih =>
    intro hs k v h
    obtain ⟨k', w⟩ := x
    unfold Srt at hs
    obtain ⟨h1, h2⟩ := List.pairwise_cons.1 hs
    simp only [getL]
    rcases List.mem_cons.1 h with h3 | h3
    · cases h3; rw [if_pos rfl]
    · rw [if_neg (fun e => by subst e; have := h1 _ h3; simp at this), ih h2 h3]
theorem EngW.idx {m : Nat} {e : Eng} (h : EngW m e) : (∀ x ∈ idxOf e.ids, 0 ≤ x.2 ∧ x.2 < e.acc.length) ∧ (idxOf e.ids).length < 700 := by
  have hl : e.ids.length = e.acc.length := by simp [Eng.ids]
  refine ⟨fun x hx => ?_, ?_⟩
  · have h1 := getL_mem (idx_srt h.hn) (k := x.1) (v := x.2) hx
    rw [idx_get h.hn] at h1
    cases h2 : posN x.1 e.ids with
    | none => rw [h2] at h1; cases h1
    | some j =>
      rw [h2] at h1
      obtain ⟨h3, _⟩ := posN_some h2
      have h4 : (j : Int) = x.2 := by simpa using h1
      omega
  · rw [idx_len h.hn, hl]
    have := h.la
    omega
def alikeE (e1 e2 : Eng) : Bool := decide (e1.accounts = e2.accounts ∧ e1.now = e2.now)
theorem accA_get (A : List Account) (k : Nat) (h : k < A.length) : getV true (A.flatMap encA) (k * 46) 46 = some (.agg (encA A[k]).toArray) :=
  flat_get encA 46 encA_len A k 0 46 true _ h (getV_whole (encA_len _))
set_option maxHeartbeats 2000000 in
theorem alike_tr (b1 b2 : Nat) (e1 e2 : Eng) (i1 i2 : EngI) {m1 m2 : Nat} (hW1 : EngW m1 e1) (hW2 : EngW m2 e2) (κ : Kap) (cs : List HProp) :
    Tr Tryd.prog 37 [.pointer (some ⟨b1, 0, none⟩), .pointer (some ⟨b2, 0, none⟩)] κ (engO b1 e1 i1 (engO b2 e2 i2 cs)) (.bool (alikeE e1 e2)) (engO b1 e1 i1 (engO b2 e2 i2 cs)) := by
  refine .enter Tryd.func37 rfl rfl ?_
  repeat refine .seq ?_
  refine .reg ?_
  refine .as ?_
  refine .go ?_
  repeat refine .seq ?_
  refine .reg ?_
  refine .mv ?_
  refine .ce (accounts_tr b1 e1 i1 hW1.idx.1 hW1.idx.2 κ _) (fun j1 _ => ?_)
  refine .sat (fun w hs => eng_swap1 hs) ?_
  refine .mv ?_
  refine .ce (accounts_tr b2 e2 i2 hW2.idx.1 hW2.idx.2 κ _) (fun j2 _ => ?_)
  have hal : alikeE e1 e2 = decide (e1.accounts = e2.accounts ∧ e1.now = e2.now) := rfl
  have hl1 : e1.accounts.length < 700 := by unfold Eng.accounts; rw [List.length_map]; exact hW1.idx.2
  have hl2 : e2.accounts.length < 700 := by unfold Eng.accounts; rw [List.length_map]; exact hW2.idx.2
  rw [hal]
  generalize e1.accounts = A1 at *
  generalize e2.accounts = A2 at *
  obtain ⟨p1, c1⟩ := j1
  obtain ⟨p2, c2⟩ := j2
  refine .sat (cs' := sl 46 (.slice p1 A1.length c1) (37, A1.flatMap encA) :: sl 46 (.slice p2 A2.length c2) (37, A2.flatMap encA) :: engO b2 e2 i2 (engO b1 e1 i1 cs)) (fun w hs => (hs.imp fun _ hg => sepL_tails (F := [_]) (fun _ hg => (eng_back [_]).2 hg) hg).pm 2 [1, 0]) ?_
  refine .as ?_
  refine .as ?_
  refine .go ?_
  refine .slq (p := p1) (n0 := A1.length) (cap := c1) (sz := 46) (fun hp1 => ?_)
  refine .slq (p := p2) (n0 := A2.length) (cap := c2) (sz := 46) (fun hp2 => ?_)
  have hmin : minI (A1.length : Int) A2.length = ((min A1.length A2.length : Nat) : Int) := by unfold minI; split <;> omega
  repeat refine .seq ?_
  refine .reg ?_
  refine .mv ?_
  refine .ln ?_
  refine .mv ?_
  refine .ln ?_
  refine .mn ?_
  rw [hmin]
  refine .mv ?_
  refine .go ?_
  repeat refine .seq ?_
  refine .block ?_
  refine .lp (fun k : Nat => [(0, .pointer (some ⟨b1, 0, none⟩)), (1, .pointer (some ⟨b2, 0, none⟩)), (4, .bool false), (5, .slice p1 A1.length c1), (6, .slice p2 A2.length c2), (16, .int .i64 (min A1.length A2.length : Nat)), (17, .int .i64 k)])
    (fun _ => sl 46 (.slice p1 A1.length c1) (37, A1.flatMap encA) :: sl 46 (.slice p2 A2.length c2) (37, A2.flatMap encA) :: engO b2 e2 i2 (engO b1 e1 i1 cs)) (fun k => k ≤ min A1.length A2.length ∧ ∀ j, j < k → A1[j]? = A2[j]?) (fun k => min A1.length A2.length - k) 0 ⟨Nat.zero_le _, fun j h => absurd h (Nat.not_lt_zero j)⟩ (by repeat (first | exact trivial | refine ⟨rfl, ?_⟩)) rfl fun k hk => ?_
  obtain ⟨hk, hall⟩ := hk
  repeat refine .seq ?_
  refine .reg ?_
  refine .lt ?_
  refine .go ?_
  repeat refine .seq ?_
  refine .cond rfl (fun hc => ?_) (fun hc => ?_)
  · have hkl : k < min A1.length A2.length := by have : (k : Int) < (min A1.length A2.length : Nat) := of_decide_eq_true hc; omega
    have hk1 : k < A1.length := by omega
    have hk2 : k < A2.length := by omega
    obtain ⟨q1, rfl⟩ : ∃ b, p1 = some ⟨b, 0, none⟩ := hp1.resolve_left (by omega)
    obtain ⟨q2, rfl⟩ : ∃ b, p2 = some ⟨b, 0, none⟩ := hp2.resolve_left (by omega)
    refine .go ?_
    repeat refine .seq ?_
    refine .block ?_
    repeat refine .seq ?_
    refine .reg ?_
    refine .mv ?_
    refine .as ?_
    refine .go ?_
    repeat refine .seq ?_
    refine .regD [(q1, 0, A1.flatMap encA), (q2, 0, A2.flatMap encA)] [] ?_
    refine .mv 0 ?_
    refine .mv 1 ?_
    refine .ix 2 ?_
    refine .lx 3 (accA_get A1 k hk1) ?_
    refine .mv 4 ?_
    refine .mv 5 ?_
    refine .ix 6 ?_
    refine .lx 7 (accA_get A2 k hk2) ?_
    refine .net (encA A1[k]) (encA A2[k]) (r := !decide (A1[k] = A2[k])) (by rw [rowEq_A]) ⟨⟨encA_len _, fit_A _⟩, ⟨encA_len _, fit_A _⟩⟩ 8 ?_
    refine .go ?_
    by_cases hne : A1[k] = A2[k]
    · rw [decide_eq_true hne]
      refine .cond rfl (fun hc => by cases hc) (fun hc => ?_)
      refine .go ?_
      refine .reg ?_
      refine .ad ?_
      refine .mv ?_
      refine .nil fun aa w hf hs => ⟨k + 1, ⟨by omega, fun j hj => ?_⟩, by omega, hf.to (by repeat (first | exact trivial | refine ⟨rfl, ?_⟩)), hs⟩
      rcases Nat.lt_or_ge j k with h1 | h1
      · exact hall j h1
      · have : j = k := by omega
        subst this
        rw [List.getElem?_eq_getElem hk1, List.getElem?_eq_getElem hk2, hne]
    · rw [decide_eq_false hne]
      refine .cond rfl (fun hc => ?_) (fun hc => by cases hc)
      have hf : decide (A1 = A2 ∧ e1.now = e2.now) = false := decide_eq_false fun h => hne (by
        have := h.1
        subst this; rfl)
      rw [hf]
      repeat refine .seq ?_
      refine .reg ?_
      refine .as ?_
      refine .go ?_
      refine .r1 fun w hs => ?_
      exact ⟨rfl, eng_swap hs.rows.rows⟩
  · have hkl : k = min A1.length A2.length := by have : ¬ (k : Int) < (min A1.length A2.length : Nat) := of_decide_eq_false hc; omega
    subst hkl
    refine .xgo ?_
    repeat refine .seq ?_
    refine .reg ?_
    refine .mv ?_
    refine .ln ?_
    refine .mv ?_
    refine .ln ?_
    refine .eq ?_
    refine .mv ?_
    by_cases hle : (A1.length : Int) = A2.length
    · rw [decide_eq_true hle]
      have hA : A1 = A2 := by
        apply List.ext_getElem?
        intro j
        rcases Nat.lt_or_ge j (min A1.length A2.length) with h | h
        · exact hall j h
        · rw [List.getElem?_eq_none (by omega), List.getElem?_eq_none (by omega)]
      refine .mv ?_
      refine .cl (Tr.over fun cs => nowE_tr b1 e1 i1 κ cs) ?_
      refine .mv ?_
      refine .cl (Tr.ef2 (nowE_tr b2 e2 i2 κ _)) ?_
      refine .eq ?_
      first | refine .pt ?_ | refine .pf ?_
      refine .as ?_
      refine .go ?_
      have hf : decide (A1 = A2 ∧ e1.now = e2.now) = decide (e1.now = e2.now) := by rw [decide_eq_decide]; exact ⟨fun h => h.2, fun h => ⟨hA, h⟩⟩
      rw [hf]
      refine .r1 fun w hs => ?_
      exact ⟨rfl, eng_swap hs.rows.rows⟩
    · rw [decide_eq_false hle]
      have hf : decide (A1 = A2 ∧ e1.now = e2.now) = false := decide_eq_false fun h => hle (by rw [h.1])
      rw [hf]
      repeat refine .skip ?_
      first | refine .pt ?_ | refine .pf ?_
      refine .as ?_
      refine .go ?_
      refine .r1 fun w hs => ?_
      exact ⟨rfl, eng_swap hs.rows.rows⟩
end Go.Proofs.YtpcechnalfaajaaDoor

/- Requests, read out of the call's memory. -/
namespace Go.Proofs.YtpcechnalfaajaaDoor
open Go Go.Proofs Go.ChangeShapes Go.WideShapes Go.ChangeAt Go.WideMaps Go.WideElems Go.RowKit

/-- A row of cells that is there reads so. -/
theorem rda_cells {W : World} {b o : Nat} {l : List Value} (hne : l ≠ []) (h : ∀ i (hi : i < l.length), W.cell? ⟨b, o + i, none⟩ = some l[i]) (g : Hp) : rda b o l (kapOf W) g := by
  have h0 := h 0 (List.length_pos_iff.2 hne)
  unfold World.cell? at h0
  split at h0
  · rename_i c T fz hc
    simp only at hc
    have hi : ∀ i (hi : i < l.length), c[o + i]? = some l[i] := by
      intro i hi
      have := h i hi
      unfold World.cell? at this
      rw [hc] at this
      simpa using this
    refine ⟨T, c.toList.take o, c.toList.drop (o + l.length), fz, ?_, ?_⟩
    · have := hi 0 (List.length_pos_iff.2 hne)
      have := (Array.getElem?_eq_some_iff.1 this).1
      simp; omega
    · show W.heap[b]? = _
      rw [hc]
      congr 2
      apply Array.toList_inj.1
      simp only
      have e : l = (c.toList.drop o).take l.length := by
        apply List.ext_getElem?
        intro i
        rcases Nat.lt_or_ge i l.length with h1 | h1
        · rw [List.getElem?_eq_getElem h1, List.getElem?_take, if_pos h1, List.getElem?_drop, Array.getElem?_toList, hi i h1]
        · rw [List.getElem?_eq_none h1, List.getElem?_take, if_neg (by omega)]
      conv => rhs; rw [e]
      rw [show o + ((c.toList.drop o).take l.length).length = o + l.length by rw [← e], ← List.drop_drop, List.take_append_drop, List.take_append_drop]
  · cases h0
section
variable {H : Type} {enc : TypeId × Value → H} {P : Program} {W : World} {base : Nat} {spare : Nat → Bool} {held : Bool}
/-- The elements of a slice, each read by 'dec'. -/
theorem slice_of {α : Type} {encE : α → List Value} {m : Nat} (hm : ∀ x, (encE x).length = m) (hm0 : 0 < m) {S : α → Prop} {t e : TypeId} {fuel : Nat} {cs : List Value} {x : DataW H × List MemPlace} (ht : P.underlying t = some (.slice e)) (hc : P.cellsOf e = m)
    (hdec : ∀ n cs x, DataW.trod enc P W base spare held n e cs = some x → ∃ a : α, S a ∧ cs = encE a)
    (h : DataW.trod enc P W base spare held fuel t cs = some x) : ∃ (p : Option Addr) (L : List α) (cap : Nat), cs = [.slice p L.length cap] ∧ L.length ≤ cap ∧ cap ≤ maxLen ∧ (∀ a ∈ L, S a) ∧ RdK (kapOf W) p (L.flatMap encE) := by
  rcases DataW.trod_slice ht h with ⟨rfl, _⟩ | ⟨a, len, cap, elems, rest, n, _, rfl, _, hb, hlc, hcm, hel, hg, _, _⟩
  · exact ⟨none, [], 0, rfl, Nat.le_refl _, Nat.zero_le _, fun a h => (by cases h), .inl rfl⟩
  · have each : ∀ i, i < len → ∃ a' : α, S a' ∧ W.cells? base (a.add (i * m)) m = some (encE a') := by
      intro i hi
      have h1 := hg i hi
      rw [List.getElem?_eq_getElem (by omega), hc] at h1
      simp only [Option.bind_eq_some_iff] at h1
      obtain ⟨c, h2, h3⟩ := h1
      obtain ⟨a', hS, rfl⟩ := hdec _ _ _ h3
      exact ⟨a', hS, h2⟩
    have build : ∀ k, k ≤ len → ∃ L : List α, L.length = k ∧ (∀ a' ∈ L, S a') ∧ ∀ i (hi : i < L.length), W.cells? base (a.add (i * m)) m = some (encE L[i]) := by
      intro k
      induction k with
      | zero => intro _; exact ⟨[], rfl, fun a h => (by cases h), fun i hi => absurd hi (Nat.not_lt_zero i)⟩
      | succ k ih =>
        intro hk
        obtain ⟨L, hl, hS, hr⟩ := ih (by omega)
        obtain ⟨a', hS', hr'⟩ := each k (by omega)
        refine ⟨L ++ [a'], by simp [hl], fun y hy => ?_, fun i hi => ?_⟩
        · rcases List.mem_append.1 hy with hy | hy
          · exact hS y hy
          · rw [List.mem_singleton.1 hy]; exact hS'
        · rcases Nat.lt_or_ge i L.length with h1 | h1
          · rw [List.getElem_append_left h1]; exact hr i h1
          · have : i = L.length := by simp at hi; omega
            subst this
            simp only [List.getElem_concat_length, hl]
            exact hr'
    obtain ⟨L, hl, hS, hr⟩ := build len (Nat.le_refl _)
    refine ⟨some a, L, cap, by rw [hl], by omega, hcm, hS, ?_⟩
    rcases Nat.eq_zero_or_pos L.length with h0 | h0
    · left
      rw [List.eq_nil_of_length_eq_zero h0]; rfl
    · right
      have h1 := (World.cells?_some (hr 0 h0)).2.2 0 hm0
      have hspot : a.spot = none := by
        have := World.cell?_spot (show W.cell? ((a.add (0 * m)).add 0) = some ((encE L[0])[0]'(by rw [hm]; exact hm0)) by rw [h1]; simp [hm, hm0])
        revert this
        unfold Addr.add
        simp
      obtain ⟨b, o, sp⟩ := a
      simp only at hspot
      subst hspot
      refine ⟨b, o, rfl, fun g => rda_cells ?_ ?_ g⟩
      · intro h2
        have := congrArg List.length h2
        rw [flat_len encE m hm] at this
        simp only [List.length_nil, Nat.mul_eq_zero] at this
        omega
      · intro i hi
        rw [flat_len encE m hm] at hi
        have hj : i / m < L.length := (Nat.div_lt_iff_lt_mul hm0).2 hi
        have hk : i % m < m := Nat.mod_lt _ hm0
        have h2 := (World.cells?_some (hr (i / m) hj)).2.2 (i % m) hk
        have e1 : (((⟨b, o, none⟩ : Addr).add (i / m * m)).add (i % m)) = ⟨b, o + i, none⟩ := by
          have := Nat.div_add_mod' i m
          unfold Addr.add
          split <;> split <;> simp_all <;> omega
        rw [e1] at h2
        rw [h2]
        have h3 : getV false (L.flatMap encE) (i / m * m + i % m) 1 = some ((encE L[i / m])[i % m]'(by rw [hm]; exact hk)) := flat_get encE m hm L (i / m) (i % m) 1 false _ hj (by simp [getV, get1_eq, hm, hk])
        rw [show i / m * m + i % m = i from Nat.div_add_mod' i m] at h3
        simp only [getV, cond_false, get1_eq] at h3
        rw [List.getElem?_eq_getElem (by rw [hm]; exact hk), ← h3]
        exact List.getElem?_eq_getElem (by rw [flat_len encE m hm]; exact hi)
end
theorem reqF : ∃ fs : Array Field, Tryd.prog.underlying 41 = some (.struct fs) ∧ fs.size = 7 ∧ (fs[0]?).map (fun f => (f.type, f.offset)) = some (3, 0) ∧ (fs[1]?).map (fun f => (f.type, f.offset)) = some (38, 1) ∧ (fs[2]?).map (fun f => (f.type, f.offset)) = some (39, 2)
    ∧ (fs[3]?).map (fun f => (f.type, f.offset)) = some (24, 3) ∧ (fs[4]?).map (fun f => (f.type, f.offset)) = some (3, 5) ∧ (fs[5]?).map (fun f => (f.type, f.offset)) = some (3, 6) ∧ (fs[6]?).map (fun f => (f.type, f.offset)) = some (3, 7) :=
  ⟨match Tryd.prog.underlying 41 with
    | some (.struct fs) => fs
    | _ => #[], by kernel_rfl, by kernel_rfl, by kernel_rfl, by kernel_rfl, by kernel_rfl, by kernel_rfl, by kernel_rfl, by kernel_rfl, by kernel_rfl⟩
theorem len8 {α : Type} {l : List α} (h : l.length = 8) : ∃ c0 c1 c2 c3 c4 c5 c6 c7, l = [c0, c1, c2, c3, c4, c5, c6, c7] := by
  have cut : ∀ {n : Nat} {l : List α}, l.length = n + 1 → ∃ x t, l = x :: t ∧ t.length = n := by
    intro n l h
    cases l with
    | nil => cases h
    | cons x t => exact ⟨x, t, rfl, by simpa using h⟩
  obtain ⟨c0, l0, rfl, h0⟩ := cut h
  obtain ⟨c1, l1, rfl, h1⟩ := cut h0
  obtain ⟨c2, l2, rfl, h2⟩ := cut h1
  obtain ⟨c3, l3, rfl, h3⟩ := cut h2
  obtain ⟨c4, l4, rfl, h4⟩ := cut h3
  obtain ⟨c5, l5, rfl, h5⟩ := cut h4
  obtain ⟨c6, l6, rfl, h6⟩ := cut h5
  obtain ⟨c7, l7, rfl, h7⟩ := cut h6
  rw [List.eq_nil_of_length_eq_zero h7]
  exact ⟨c0, c1, c2, c3, c4, c5, c6, c7, rfl⟩
/-- A request that is handed over. -/
def ReqS (κ : Kap) (q : Req) : Prop := (RdK κ q.pa (q.accs.flatMap encA) ∧ q.accs.length ≤ q.ca) ∧ (RdK κ q.pt (q.trs.flatMap encT) ∧ q.trs.length ≤ q.ct) ∧ (-9223372036854775808 ≤ q.from_ ∧ q.from_ ≤ 9223372036854775807)
section
variable {H : Type} {enc : TypeId × Value → H} {W : World} {base : Nat} {spare : Nat → Bool} {held : Bool}
theorem acc_dec (n : Nat) (cs : List Value) (x : DataW H × List MemPlace) (h : DataW.trod enc Tryd.prog W base spare held n 37 cs = some x) : ∃ a : Account, AcOk a ∧ cs = encA a := by
  obtain ⟨zs, h1, rfl⟩ := trod_plain 8 n 37 cs x accountK (by kernel_rfl) h
  exact account_of h1
theorem tra_dec (n : Nat) (cs : List Value) (x : DataW H × List MemPlace) (h : DataW.trod enc Tryd.prog W base spare held n 43 cs = some x) : ∃ a : Transfer, TrOk a ∧ cs = encT a := by
  obtain ⟨zs, h1, rfl⟩ := trod_plain 8 n 43 cs x transferK (by kernel_rfl) h
  exact transfer_of h1
theorem req_dec (n : Nat) (cs : List Value) (x : DataW H × List MemPlace) (h : DataW.trod enc Tryd.prog W base spare held n 41 cs = some x) : ∃ q : Req, ReqS (kapOf W) q ∧ cs = reqC q := by
  obtain ⟨fs, hu, hs7, f0, f1, f2, f3, f4, f5, f6⟩ := reqF
  obtain ⟨xs, m, rfl, _, hl, hs, hg⟩ := DataW.trod_struct hu h
  have hl8 : cs.length = 8 := hl.trans (by kernel_rfl)
  have fld : ∀ (i : Nat) (hi : i < 7) (T o s : Nat), (fs[i]?).map (fun f => (f.type, f.offset)) = some (T, o) → Tryd.prog.cellsOf T = s → ∃ y, DataW.trod enc Tryd.prog W base spare held m T ((cs.drop o).take s) = some y := by
    intro i hi T o s hf hs
    cases hfi : fs[i]? with
    | none => rw [hfi] at hf; cases hf
    | some f =>
      rw [hfi] at hf
      simp only [Option.map_some, Option.some.injEq, Prod.mk.injEq] at hf
      obtain ⟨rfl, rfl⟩ := hf
      have := hg i f hfi
      rw [List.getElem?_eq_getElem (by omega), hs] at this
      exact ⟨_, this⟩
  obtain ⟨c0, c1, c2, c3, c4, c5, c6, c7, rfl⟩ := len8 hl8
  obtain ⟨y0, h0⟩ := fld 0 (by decide) 3 0 1 f0 (by kernel_rfl)
  obtain ⟨y1, h1⟩ := fld 1 (by decide) 38 1 1 f1 (by kernel_rfl)
  obtain ⟨y2, h2⟩ := fld 2 (by decide) 39 2 1 f2 (by kernel_rfl)
  obtain ⟨y3, h3⟩ := fld 3 (by decide) 24 3 2 f3 (by kernel_rfl)
  obtain ⟨y4, h4⟩ := fld 4 (by decide) 3 5 1 f4 (by kernel_rfl)
  obtain ⟨y5, h5⟩ := fld 5 (by decide) 3 6 1 f5 (by kernel_rfl)
  obtain ⟨y6, h6⟩ := fld 6 (by decide) 3 7 1 f6 (by kernel_rfl)
  obtain ⟨z0, e0, _⟩ := DataW.trod_int (k := .i64) (by kernel_rfl) h0
  obtain ⟨p1, L1, k1, e1, l1, _, _, r1⟩ := slice_of (m := 46) encA_len (by decide) (e := 37) (by kernel_rfl) (by kernel_rfl) acc_dec h1
  obtain ⟨p2, L2, k2, e2, l2, _, _, r2⟩ := slice_of (m := 16) encT_len (by decide) (e := 43) (by kernel_rfl) (by kernel_rfl) tra_dec h2
  obtain ⟨zs, hz, e3⟩ := trod_plain 8 m 24 _ _ numK (by kernel_rfl) h3
  obtain ⟨a, _, rfl, ha, hz⟩ := RangeOk.cons hz
  obtain ⟨b, _, rfl, hb, hz⟩ := RangeOk.cons hz
  rw [hz.nil] at e3
  obtain ⟨z4, e4, _, w4⟩ := DataW.trod_int (k := .i64) (by kernel_rfl) h4
  obtain ⟨z5, e5, _⟩ := DataW.trod_int (k := .i64) (by kernel_rfl) h5
  obtain ⟨z6, e6, _⟩ := DataW.trod_int (k := .i64) (by kernel_rfl) h6
  have w4 : IntKind.i64.min ≤ z4 ∧ z4 ≤ IntKind.i64.max := by simpa [Lit.wf] using w4
  simp only [List.drop_zero, List.drop_succ_cons, List.take_succ_cons, List.take_zero, List.cons.injEq, and_true, zipK, numK] at e0 e1 e2 e3 e4 e5 e6
  obtain ⟨e3, e3'⟩ := e3
  subst e0 e1 e2 e3 e3' e4 e5 e6
  exact ⟨⟨z0, p1, L1, k1, p2, L2, k2, a, b, z4, z5, z6⟩, ⟨⟨r1, l1⟩, ⟨r2, l2⟩, in64 w4⟩, rfl⟩
/-- A slice handed over. -/
theorem slice_of_ok {P : Program} {w : World} {r : Reach} {base : Nat} {T e : TypeId} {v : Value} (hT : P.underlying T = some (.slice e)) (h : Value.okWide P w r base T v) : ∃ p n c, v = .slice p n c := by
  unfold Value.okWide at h
  rw [hT] at h
  have h : Cell.okWide P w r base T v := h
  unfold Cell.okWide at h
  rw [hT] at h
  have h : Cell.ok P w r base T v := h
  unfold Cell.ok at h
  rw [hT] at h
  cases v with
  | slice p n c => exact ⟨p, n, c, rfl⟩
  | _ => exact absurd h (by simp)
set_option maxRecDepth 100000 in
/-- An argument that is a list of requests. -/
theorem reqs_of {w : World} {r : Reach} {b0 : Nat} {v : Value} {d : DataW H} {p : List MemPlace} (hv : Value.okWide Tryd.prog w r b0 62 v) (h : DataW.Trod enc Tryd.prog W base spare held 62 v d p) :
    ∃ (q : Option Addr) (L : List Req) (cap : Nat), v = .slice q L.length cap ∧ L.length ≤ cap ∧ ReqsOk (kapOf W) q L := by
  obtain ⟨fuel, hf⟩ := h
  obtain ⟨q, L, cap, e, hl, _, hS, hr⟩ := slice_of (encE := reqC) (m := 8) (fun _ => rfl) (by decide) (e := 41) (by kernel_rfl) (by kernel_rfl) req_dec hf
  obtain ⟨p', n', c', rfl⟩ := slice_of_ok (e := 41) (by kernel_rfl) hv
  have hv' : Value.slice p' n' c' = .slice q L.length cap := by simpa [Value.cells] using e
  exact ⟨q, L, cap, hv', hl, ⟨hr, fun a ha => (hS a ha).1, fun a ha => (hS a ha).2.1, fun a ha => (hS a ha).2.2⟩⟩
end
end Go.Proofs.YtpcechnalfaajaaDoor

/- Requests one behind the other; Apply of one that was handed over. -/
namespace Go.Proofs.YtpcechnalfaajaaDoor
open Go Go.Proofs

def runL (e : Eng) (L : List Req) : Eng := L.foldl (fun e q => (e.apply (tameR q)).1.1) e
theorem runL_snoc (e : Eng) (L : List Req) (q : Req) : runL e (L ++ [q]) = ((runL e L).apply (tameR q)).1.1 := by unfold runL; rw [List.foldl_append]; rfl
theorem runL_take {e : Eng} {L : List Req} {k : Nat} (h : k < L.length) : runL e (L.take (k + 1)) = ((runL e (L.take k)).apply (tameR L[k])).1.1 := by
  rw [List.take_succ_eq_append_getElem h, runL_snoc]
theorem runL_w {m : Nat} {e : Eng} (h : EngW m e) : ∀ (L : List Req), (∀ q ∈ L, q.from_ ≤ 9223372036854775807) → EngW (m + 600 * L.length) (runL e L) := by
  intro L
  induction L generalizing m e with
  | nil => intro _; exact h.mono (by simp)
  | cons q L ih =>
    intro hq
    have h1 := apply_w h (tameR q) (hq q (by simp)) (by show (q.accs.take 8).length ≤ 100; rw [List.length_take]; omega) (by show (q.trs.take 8).length ≤ 100; rw [List.length_take]; omega)
    exact (ih h1 (fun x hx => hq x (by simp [hx]))).mono (by simp only [List.length_cons]; omega)
theorem RdK.take {κ : Kap} {p : Option Addr} {l : List Value} (h : RdK κ p l) (n : Nat) : RdK κ p (l.take n) := by
  rcases h with h | ⟨b, o, hp, hr⟩
  · subst h; exact .inl (by simp)
  · refine .inr ⟨b, o, hp, fun g => ?_⟩
    obtain ⟨T, pre, sp, fz, h1, h2⟩ := hr g
    refine ⟨T, pre, l.drop n ++ sp, fz, h1, ?_⟩
    rw [h2, ← List.append_assoc (l.take n), List.take_append_drop]
/-- What was handed over is done; what is told of it is not looked at. -/
theorem applyQ_tr (b : Nat) (e : Eng) (i : EngI) (hi : i.lb.length = e.rws.length) {m : Nat} (hm : m + 8000 < 70000) (hW : EngW m e) (q : Req) (κ : Kap) (hκ : Laid κ) (ha : RdK κ q.pa (q.accs.flatMap encA)) (ht : RdK κ q.pt (q.trs.flatMap encT)) (hf : q.from_ ≤ 9223372036854775807) (cs : List HProp) :
    Te Tryd.prog 16 [.pointer (some ⟨b, 0, none⟩), .agg (reqC (tameR q)).toArray] κ (engO b e i cs) (fun x : EngI × Value => x.1.lb.length = (e.apply (tameR q)).1.1.rws.length) (fun x => x.2) (fun x => engO b (e.apply (tameR q)).1.1 x.1 cs) := fun w hs => by
  have hA : RdS [isK κ] (tameR q).pa ((tameR q).accs.flatMap encA) := by
    show RdS [isK κ] q.pa ((q.accs.take 8).flatMap encA)
    rw [flat_take encA 46 encA_len]
    exact (ha.take _).rds []
  have hT : RdS [isK κ] (tameR q).pt ((tameR q).trs.flatMap encT) := by
    show RdS [isK κ] q.pt ((q.trs.take 8).flatMap encT)
    rw [flat_take encT 16 encT_len]
    exact (ht.take _).rds []
  have h := apply_tr b e i hi hm hW (tameR q) hf (by show (q.accs.take 8).length < 1000; rw [List.length_take]; omega) (by show (q.trs.take 8).length < 1000; rw [List.length_take]; omega) κ hκ [isK κ] (isK κ :: cs) ⟨[], cs, rfl⟩ hA hT
  exact (h w (hs.isK.imp fun _ hg => (eng_back [_]).1 hg)).mono fun _ _ ⟨u, h0, h1, h2⟩ => ⟨(u.1, _), h0, h1, (h2.rows.imp fun _ hg => (eng_back [_]).2 hg : Sat κ _ (isK κ :: _)).rows⟩
theorem wrap_le (z : Int) : -9223372036854775808 ≤ IntKind.i64.wrap z ∧ IntKind.i64.wrap z ≤ 9223372036854775807 := by
  have e1 : (2 : Int) ^ (64 : Nat) = 18446744073709551616 := by decide
  have e2 : (2 : Int) ^ (64 - 1 : Nat) = 9223372036854775808 := by decide
  simp only [IntKind.wrap, IntKind.bits, IntKind.signed, Bool.true_and, e1, e2]
  split
  · rename_i h'
    have := of_decide_eq_true h'
    omega
  · rename_i h'
    have : ¬ (z % 18446744073709551616 ≥ 9223372036854775808) := fun k => h' (decide_eq_true k)
    omega
/-- A request by kind and time alone. -/
def kindR (k t : Int) : Req := ⟨k, none, [], 0, none, [], 0, 0, 0, t, 0, 0⟩
/-- A request that is refused. -/
theorem refuse_tr (b : Nat) (e : Eng) (i : EngI) (hi : i.lb.length = e.rws.length) {m : Nat} (hm : m + 8000 < 70000) (hW : EngW m e) (k t : Int) (ht : t ≤ 9223372036854775807) (hr : k ≠ 1 ∧ k ≠ 2 ∧ ¬ (k = 3 ∧ e.now < t)) (κ : Kap) (hκ : Laid κ) (cs : List HProp) :
    Te Tryd.prog 16 [.pointer (some ⟨b, 0, none⟩), .agg (reqC (kindR k t)).toArray] κ (engO b e i cs) (fun x : EngI × Option Addr × Nat => x.1.lb.length = e.rws.length) (fun x => .tuple #[.slice x.2.1 0 x.2.2, .int .i64 5]) (fun x => engO b e x.1 cs) := fun w hs => by
  have h := apply_tr b e i hi hm hW (kindR k t) ht (by simp [kindR]) (by simp [kindR]) κ hκ [] cs ⟨[], cs, rfl⟩ (.inl rfl) (.inl rfl)
  have hk : e.apply (kindR k t) = ((e, []), 5) := (if_neg hr.1).trans ((if_neg hr.2.1).trans (if_neg hr.2.2))
  rw [hk] at h
  exact (h w hs).mono fun _ _ ⟨u, h0, h1, h2⟩ => ⟨u, h0, h1, h2.rows⟩
end Go.Proofs.YtpcechnalfaajaaDoor

/- What requests that are tamed keep, counted closer; accounts rise by their numbers. -/
namespace Go.Proofs.YtpcechnalfaajaaDoor
open Go Go.Proofs

theorem applyT_w {m : Nat} {e : Eng} (h : EngW m e) (q : Req) (hf : q.from_ ≤ 9223372036854775807) : EngW (m + 512) (e.apply (tameR q)).1.1 := by
  have la : (tameR q).accs.length ≤ 8 := by show (q.accs.take 8).length ≤ 8; rw [List.length_take]; omega
  have lt : (tameR q).trs.length ≤ 8 := by show (q.trs.take 8).length ≤ 8; rw [List.length_take]; omega
  unfold Eng.apply
  split
  · exact (batchA_w h _).mono (by omega)
  split
  · exact (batchT_w h _).mono (by omega)
  split
  · rename_i h3
    have h1 := (tick_w h q.from_ ⟨by have := h3.2; show e.now ≤ (tameR q).from_; omega, hf⟩ e.trs.length).1
    have := h.lt
    exact EngW.mono h1 (by omega)
  · exact h.mono (by omega)
theorem runL_w2 : ∀ (L : List Req) {m : Nat} {e : Eng}, EngW m e → (∀ q ∈ L, q.from_ ≤ 9223372036854775807) → EngW (m + 512 * L.length) (runL e L) := by
  intro L
  induction L with
  | nil => intro m e h _; exact h.mono (by simp)
  | cons q L ih =>
    intro m e h hq
    exact (ih (applyT_w h q (hq q (by simp))) (fun x hx => hq x (by simp [hx]))).mono (by simp only [List.length_cons]; omega)
theorem acc_ids {m : Nat} {e : Eng} (h : EngW m e) : e.accounts.map (·.id) = (idxOf e.ids).map (·.1) := by
  unfold Eng.accounts
  rw [List.map_map]
  apply List.map_congr_left
  intro x hx
  have h1 := getL_mem (idx_srt h.hn) (k := x.1) (v := x.2) hx
  rw [idx_get h.hn] at h1
  cases h2 : posN x.1 e.ids with
  | none => rw [h2] at h1; cases h1
  | some j =>
    rw [h2] at h1
    obtain ⟨h3, h5⟩ := posN_some h2
    have h4 : (j : Int) = x.2 := by simpa using h1
    have hl : e.ids.length = e.acc.length := by simp [Eng.ids]
    show (e.acc.getD x.2.toNat zA).id = x.1
    rw [← h4, Int.toNat_natCast, getD_at (by omega), ← h5]
    simp [Eng.ids]
theorem acc_rise {m : Nat} {e : Eng} (h : EngW m e) : e.accounts.Pairwise fun a b => a.id.toNat < b.id.toNat := by
  have h1 : (e.accounts.map (·.id)).Pairwise fun a b => a.toNat < b.toNat := by
    rw [acc_ids h, List.pairwise_map]
    exact idx_srt h.hn
  exact (List.pairwise_map (f := fun a : Account => a.id) (R := fun a b : Num => a.toNat < b.toNat)).1 h1
end Go.Proofs.YtpcechnalfaajaaDoor
