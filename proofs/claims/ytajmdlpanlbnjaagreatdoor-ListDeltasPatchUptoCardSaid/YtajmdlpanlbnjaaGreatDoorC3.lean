/- What is proved here: numbers of dates, and the loops of ReadDate, of the program (no statement of the seat). -/
import Derived.Test.YtajmdlpanlbnjaaGreatDoorProg
import Derived.Lib.ItoaNum
import Derived.Shelf.Strings.Builder1
import Derived.Shelf.Strings.Builder2
import Derived.Shelf.Strings.BuilderF
import Derived.Shelf.Strconv.Atoi
import Derived.Shelf.Strconv.Itoa0
import Derived.Shelf.Strconv.Itoa1
import Derived.Shelf.LaysM
import Derived.Shelf.Strconv.Itoa2
import Derived.Shelf.Strconv.Itoa3
import Derived.Shelf.Strconv.AtoiErrFast
import Derived.Shelf.Strconv.ParseIntEmpty
import Derived.Shelf.Strconv.AtoiFail
import Derived.Shelf.Strconv.Clone
import Derived.Shelf.Strconv.SyntaxError
import Derived.Shelf.LaysC
import Derived.Shelf.Strconv.ToError
import Derived.Shelf.Strconv.Lower
import Derived.Shelf.Strconv.ParseUint10
import Derived.Shelf.Strconv.ParseUint10Empty
import Derived.Shelf.Strconv.ParseUint10Any
import Derived.Shelf.Strconv.ParseInt10
import Derived.Shelf.Strconv.AtoiLong
import Derived.Shelf.Strconv.AtoiInnerAll
import Derived.Shelf.Strconv.RangeError
import Derived.Shelf.Strconv.ToErrorRange
import Derived.Shelf.Strconv.AtoiAll
import Derived.Shelf.Strings.Search1
import Derived.Shelf.Strings.Search2
import Derived.Shelf.Strings.Cut
import Derived.Shelf.Strings.Shaped
import Derived.Shelf.Strings.Prefix
import Derived.Shelf.Bits.Mul64
import Derived.Shelf.Strings.Repeat
import Derived.Shelf.Slices.Equal
import Derived.Ground.Names2Prog
import Derived.Shelf.Slices.Clone
import Derived.ProofKit
import Derived.Deep.Slices
import Derived.SizedLaws
import Derived.OpenShut
import Derived.ShutString
import Derived.ChangeOld
import Derived.JoinedTies
import Derived.Test.YtajmdlpanlbnjaaGreatDoorRows
import Derived.Deep.DeepHandedRow
import Derived.Shelf.Vars
import Derived.Lib.SplitLaws
import Derived.Lib.AtoiAll
import Derived.Lib.AtoiAllCases
import Derived.Lib.ItoaLen
import Derived.Lib.AtoiErrMem
import Derived.Test.YtajmdlpanlbnjaaGreatDoorC2

namespace Go.Proofs.YtajmdlpanlbnjaaGreatDoor.M
open Go Go.RowKit
set_option linter.unusedVariables false
set_option linter.unusedSimpArgs false

section

variable {P : Program} {E : Env}
def exOf : Ex → Exit
  | .normal => .normal
  | .exit i => .exit i
  | .ret => .ret
def lessR (kt kh : List Nat) (p : Ex × St) : T (Ex × St) := .ret (p.1, less kt kh p.2)
def ownP (kb j k : Nat) (p : Nat × Blk) : Nat × Blk := match Nat.beq p.1 kb with
  | true => (p.1, { p.2 with rows := p.2.rows.map (fun r => r.set j (.own k)) })
  | false => p
def ownH (kb j k t n : Nat) (h : Heap) : Heap := mset (h.map (ownP kb j k)) k ⟨false, t, n, []⟩
def ownB (kb j k : Nat) (h : Heap) : Bool := (match mget h k with | none => true | some _ => false) && Nat.blt k 900 && (match mget h kb with
  | some b => b.box && b.rows.all fun r => match r[j]? with | some .e0 => true | _ => false
  | none => false)
inductive LoopOK (E : Env) (x : Code) : St → Ex → St → Prop where
  | stop {s s1 : St} {e : Ex} (kt kh : List Nat) (h : ((exec E x s).bind (lessR kt kh)).val = some (e, s1)) (hn : e ≠ .normal) (hc : closedB s1 = true) : LoopOK E x s e s1
  | next {s s1 s2 : St} {e : Ex} (kt kh : List Nat) (h : ((exec E x s).bind (lessR kt kh)).val = some (.normal, s1)) (hc : closedB s1 = true) (hl : LoopOK E x s1 e s2) : LoopOK E x s e s2
  | weak {s s2 : St} {e : Ex} (kt kh : List Nat) (hc : closedB (less kt kh s) = true) (hl : LoopOK E x (less kt kh s) e s2) : LoopOK E x s e s2
  | own {s s2 : St} {e : Ex} (kb j k t n : Nat) (hb : ownB kb j k s.h = true) (hl : LoopOK E x ⟨s.t, ownH kb j k t n s.h⟩ e s2) : LoopOK E x s e s2
section
variable {B : Nat → Prop} {N : Nat} {β0 : Nat → Option BI} {o : Oper} {a : Act} {w w' w0 : World} {S S' S0 : Nat → Prop} {β β' : Nat → Option BI} {h : Heap} {av : AV} {v : Value} {t : Tmps} {s s' s2 : St}
theorem hasAll_spec {ks : List Nat} (hh : hasAll h ks = true) : ∀ k ∈ ks, ∃ b, mget h k = some b := fun k hk => by
  have := List.all_eq_true.1 hh k hk
  cases hm : mget h k with
  | none => rw [hm] at this; cases this
  | some b => exact ⟨b, rfl⟩
theorem getT_filter (f : Nat → Bool) (t : Tmps) (n : Nat) : getT (t.filter fun p => f p.1) n = if f n = true then getT t n else .unk := by
  unfold getT
  rw [mget_filter f]
  cases f n <;> simp
theorem less_rel (rel : Rel E B N w0 S0 β0 s a w S β) (kt kh : List Nat) (hc : closedB (less kt kh s) = true) : ∃ β', Rel E B N w0 S0 β0 (less kt kh s) a w S β' := by
  have inv := rel.inv
  unfold closedB at hc
  simp only [Bool.and_eq_true] at hc
  obtain ⟨hc1, hc2⟩ := hc
  have mh : ∀ k, mget (less kt kh s).h k = if kh.elem k = true then mget s.h k else none := fun k => by
    show mget (s.h.filter fun p => kh.elem p.1) k = _
    exact mget_filter (fun q => kh.elem q) s.h k
  let β' : Nat → Option BI := fun k => if kh.elem k = true then β k else none
  have hb : ∀ k x, β' k = some x → kh.elem k = true ∧ β k = some x := by
    intro k x hx
    simp only [β'] at hx
    split at hx
    · exact ⟨‹_›, hx⟩
    · cases hx
  have keep : ∀ ks, hasAll (less kt kh s).h ks = true → ∀ k ∈ ks, ∀ x, β k = some x → β' k = some x := by
    intro ks hks k hk x hx
    obtain ⟨b, hm⟩ := hasAll_spec hks k hk
    rw [mh] at hm
    split at hm
    · simp only [β']; rw [if_pos ‹_›]; exact hx
    · cases hm
  refine ⟨β', ⟨inv.base, inv.lt, fun k k' x x' h1 h2 => inv.inj k k' x x' (hb k x h1).2 (hb k' x' h2).2, fun k x h1 => inv.new k x (hb k x h1).2, fun k x h1 => ?_, fun k bl h1 => ?_, inv.glob⟩, fun n => ?_, fun n j b want x hn => ?_, rel.below, rel.sub, rel.news, fun k x hi hm hx => rel.fix k x hi hm (hb k x hx).2, rel.size, rel.defers⟩
  · obtain ⟨k1, k2⟩ := hb k x h1
    obtain ⟨bl, a1, a2, a3⟩ := inv.dom k x k2
    have hm : mget (less kt kh s).h k = some bl := by rw [mh, if_pos k1]; exact a1
    refine ⟨bl, hm, fun hr => ?_, a3⟩
    obtain ⟨cs, ty, c1, c2, c3, c4, c5, c6, c7, c8⟩ := a2 hr
    refine ⟨cs, ty, c1, c2, c3, c4, c5, c6, c7, fun i row hi => ⟨(c8 i row hi).1, fun j y hy => ?_⟩⟩
    obtain ⟨u, hu, hru⟩ := (c8 i row hi).2 j y hy
    refine ⟨u, hu, ?_⟩
    cases hbx : bl.box
    · rw [hbx] at hru; simpa using hru
    · rw [hbx] at hru
      simp only [if_true] at hru ⊢
      have h2 := List.all_eq_true.1 hc2 (k, bl) (mget_mem hm)
      simp only [hbx] at h2
      have h3 := List.all_eq_true.1 (List.all_eq_true.1 h2 row (List.mem_of_getElem? hi)) y (List.mem_of_getElem? hy)
      refine hru.mono (fun _ _ => rfl) (fun _ h => h) fun q hq x hx => keep _ h3 q ?_ x hx
      cases y <;> first | exact hq | (simp [refsC, refs0] at hq)
  · rw [mh] at h1
    split at h1
    · obtain ⟨x, hx⟩ := inv.cov k bl h1
      exact ⟨x, by simp only [β']; rw [if_pos ‹_›]; exact hx⟩
    · cases h1
  · have hg : getT (less kt kh s).t n = noGd (if kt.elem n = true then getT s.t n else .unk) := by
      show getT ((s.t.filter fun p => kt.elem p.1).map fun p => (p.1, noGd p.2)) n = _
      rw [getT_map _ noGd rfl, getT_filter (fun q => kt.elem q)]
    have hk : hasAll (less kt kh s).h (refs2 (getT (less kt kh s).t n)) = true := by
      unfold getT
      cases hm : mget (less kt kh s).t n with
      | none => rfl
      | some y => exact List.all_eq_true.1 hc1 (n, y) (mget_mem hm)
    rw [hg] at hk ⊢
    split
    · rename_i hn
      rw [if_pos hn] at hk
      exact (noGd_rv (rel.tok n)).mono (fun _ _ => rfl) (fun _ h => h) (keep _ hk)
    · trivial
  · have hg : getT (less kt kh s).t n = noGd (if kt.elem n = true then getT s.t n else .unk) := by
      show getT ((s.t.filter fun p => kt.elem p.1).map fun p => (p.1, noGd p.2)) n = _
      rw [getT_map _ noGd rfl, getT_filter (fun q => kt.elem q)]
    rw [hg] at hn
    exact absurd hn noGd_ne
theorem less_relE (rel : RelE E B N w0 S0 β0 s a w) (kt kh : List Nat) (hc : closedB (less kt kh s) = true) : RelE E B N w0 S0 β0 (less kt kh s) a w := by
  obtain ⟨S, β, r⟩ := rel
  obtain ⟨β', r'⟩ := less_rel r kt kh hc
  exact ⟨S, β', r'⟩
theorem ownNe {i k : Nat} (h : ¬ i = k) : Nat.beq i k = false := by
  cases hb : Nat.beq i k
  · rfl
  · exact absurd (Nat.eq_of_beq_eq_true hb) h
theorem mget_ownH (kb j k t n : Nat) (h : Heap) (q : Nat) : mget (ownH kb j k t n h) q = if k = q then some ⟨false, t, n, []⟩ else (mget h q).map fun b => if q = kb then { b with rows := b.rows.map (fun r => r.set j (.own k)) } else b := by
  have hmap : ∀ h : Heap, mget (h.map (ownP kb j k)) q = (mget h q).map fun b => if q = kb then { b with rows := b.rows.map (fun r => r.set j (.own k)) } else b := by
    intro h
    induction h with
    | nil => rfl
    | cons p r ih =>
      obtain ⟨i, b⟩ := p
      rw [List.map_cons]
      have hp : ownP kb j k (i, b) = (i, if i = kb then { b with rows := b.rows.map (fun r => r.set j (.own k)) } else b) := by
        unfold ownP
        by_cases hi : i = kb
        · have : Nat.beq i kb = true := by simpa using hi
          simp only [this, if_pos hi]
        · have : Nat.beq i kb = false := ownNe hi
          simp only [this, if_neg hi]
      rw [hp, mget, mget]
      by_cases hqi : q = i
      · subst hqi
        have : Nat.beq q q = true := by simp
        simp only [this, Option.map_some]
      · have : Nat.beq q i = false := ownNe hqi
        simp only [this]
        exact ih
  unfold ownH
  rw [mget_mset]
  by_cases hkq : k = q
  · subst hkq; simp
  · have hqk : ¬ q = k := fun e => hkq e.symm
    first | (rw [if_neg hkq, if_neg hkq]; exact hmap h) | (rw [if_neg hqk, if_neg hkq]; exact hmap h)
theorem own_rel (rel : Rel E B N w0 S0 β0 s a w S β) {kb j k t n : Nat} (hc : ownB kb j k s.h = true) : ∃ β', Rel E B N w0 S0 β0 ⟨s.t, ownH kb j k t n s.h⟩ a w S β' := by
  have inv := rel.inv
  unfold ownB at hc
  simp only [Bool.and_eq_true] at hc
  obtain ⟨⟨hc1, hc2⟩, hc3⟩ := hc
  have hk9 : k < 900 := by simpa using hc2
  have hkn : mget s.h k = none := by
    cases hm : mget s.h k with
    | none => rfl
    | some b => rw [hm] at hc1; cases hc1
  have hβk : β k = none := by
    cases hb : β k with
    | none => rfl
    | some x =>
      obtain ⟨bl, h1, _⟩ := inv.dom k x hb
      rw [hkn] at h1; cases h1
  let β' : Nat → Option BI := fun q => if q = k then some ⟨false, 0, 0, 0, 0⟩ else β q
  have hb : ∀ q x, β' q = some x → x.real = true → β q = some x := by
    intro q x hx hr
    simp only [β'] at hx
    split at hx
    · cases hx; cases hr
    · exact hx
  have keep : ∀ q x, β q = some x → β' q = some x := by
    intro q x hx
    simp only [β']
    rw [if_neg (by rintro rfl; rw [hβk] at hx; cases hx)]
    exact hx
  refine ⟨β', ⟨inv.base, inv.lt, fun k1 k2 x x' h1 h2 r1 r2 => inv.inj k1 k2 x x' (hb k1 x h1 r1) (hb k2 x' h2 r2) r1 r2, fun q x h1 r1 => inv.new q x (hb q x h1 r1) r1, fun q x h1 => ?_, fun q bl h1 => ?_, inv.glob⟩, fun m => (rel.tok m).mono (fun _ _ => rfl) (fun _ h => h) (fun q _ x hx => keep q x hx), rel.gd, rel.below, rel.sub, rel.news, fun q x hi hm hx => ?_, rel.size, rel.defers⟩
  · by_cases hq : q = k
    · subst hq
      refine ⟨⟨false, t, n, []⟩, by rw [mget_ownH, if_pos rfl], fun hr => ?_, fun _ => ⟨rfl, rfl⟩⟩
      simp only [β', if_true] at h1
      cases h1; cases hr
    · have h2 : β q = some x := by simp only [β', if_neg hq] at h1; exact h1
      obtain ⟨bl, a1, a2, a3⟩ := inv.dom q x h2
      have hm : mget (ownH kb j k t n s.h) q = some (if q = kb then { bl with rows := bl.rows.map (fun r => r.set j (.own k)) } else bl) := by
        rw [mget_ownH, if_neg (fun e => hq e.symm), a1]; rfl
      by_cases hkb : q = kb
      · rw [if_pos hkb] at hm
        subst hkb
        rw [a1] at hc3
        simp only [Bool.and_eq_true] at hc3
        obtain ⟨hbx, hrows⟩ := hc3
        refine ⟨_, hm, fun hr => ?_, fun hr => ?_⟩
        · obtain ⟨cs, ty, c1, c2, c3, c4, c5, c6, c7, c8⟩ := a2 hr
          refine ⟨cs, ty, c1, c2, by simpa using c3, c4, c5, c6, c7, fun i row hi => ?_⟩
          simp only [List.getElem?_map, Option.map_eq_some_iff] at hi
          obtain ⟨row0, hi0, rfl⟩ := hi
          obtain ⟨d1, d2⟩ := c8 i row0 hi0
          refine ⟨by simpa using d1, fun l y hy => ?_⟩
          simp only [hbx, if_true] at d2 ⊢
          rw [List.getElem?_set] at hy
          split at hy
          · rename_i hjl
            subst hjl
            split at hy
            · rename_i hlt
              cases hy
              have he := List.all_eq_true.1 hrows row0 (List.mem_of_getElem? hi0)
              have hg : row0[j]? = some row0[j] := List.getElem?_eq_getElem hlt
              have h0 : row0[j]? = some .e0 := by
                rw [hg] at he ⊢
                cases hh : row0[j] <;> rw [hh] at he <;> first | rfl | cases he
              obtain ⟨v, e1, e2⟩ := d2 j _ h0
              exact ⟨v, e1, ⟨⟨false, 0, 0, 0, 0⟩, by simp only [β', if_true], (fun hr => (nomatch hr)), (fun _ => e2)⟩⟩
            · cases hy
          · obtain ⟨v, e1, e2⟩ := d2 l y hy
            exact ⟨v, e1, e2.mono (fun _ _ => rfl) (fun _ h => h) fun q _ x hx => keep q x hx⟩
        · have := a3 hr
          rw [hbx] at this
          exact absurd this.2 (by simp)
      · rw [if_neg hkb] at hm
        refine ⟨bl, hm, fun hr => ?_, a3⟩
        obtain ⟨cs, ty, c1, c2, c3, c4, c5, c6, c7, c8⟩ := a2 hr
        refine ⟨cs, ty, c1, c2, c3, c4, c5, c6, c7, fun i row hi => ⟨(c8 i row hi).1, fun l y hy => ?_⟩⟩
        obtain ⟨u, hu, hru⟩ := (c8 i row hi).2 l y hy
        refine ⟨u, hu, ?_⟩
        cases hbx : bl.box
        · rw [hbx] at hru; simpa using hru
        · rw [hbx] at hru
          simp only [if_true] at hru ⊢
          exact hru.mono (fun _ _ => rfl) (fun _ h => h) fun q _ x hx => keep q x hx
  · rw [mget_ownH] at h1
    split at h1
    · rename_i e
      subst e
      exact ⟨⟨false, 0, 0, 0, 0⟩, by simp only [β', if_true]⟩
    · cases hm : mget s.h q with
      | none => rw [hm] at h1; cases h1
      | some b =>
        obtain ⟨x, hx⟩ := inv.cov q b hm
        exact ⟨x, keep q x hx⟩
  · have hq : q ≠ k := by rintro rfl; exact absurd hi.1 (by omega)
    simp only [β', if_neg hq] at hx
    exact rel.fix q x hi hm hx
theorem own_relE (rel : RelE E B N w0 S0 β0 s a w) {kb j k t n : Nat} (hc : ownB kb j k s.h = true) : RelE E B N w0 S0 β0 ⟨s.t, ownH kb j k t n s.h⟩ a w := by
  obtain ⟨S, β, r⟩ := rel
  obtain ⟨β', r'⟩ := own_rel r hc
  exact ⟨S, β', r'⟩
theorem ung_none (x : AV) : ung none x = x := by unfold ung; split <;> rfl
theorem eval_bool (rel : RelE E B N w0 S0 β0 s a w) {c : Operand} {b : Bool} (hb : boolOf (ev E s.t c) = some b) : a.eval c = .bool b := by
  obtain ⟨S, β, r⟩ := rel
  have := r.args (g := none) (fun _ _ e => by cases e) c
  unfold ρOf at this
  rw [ung_none, boolOf_some hb] at this
  exact (rv_v this).1
def CodeOK (P : Program) (E : Env) (B : Nat → Prop) (N : Nat) (w0 : World) (S0 : Nat → Prop) (β0 : Nat → Option BI) (c : Code) : Prop :=
  ∀ (s : St) (e : Ex) (s' : St) (a : Act) (w : World) (Q : Exit → Act → World → Prop), RelE E B N w0 S0 β0 s a w → (exec E c s).val = some (e, s') → (∀ a' w', RelE E B N w0 S0 β0 s' a' w' → Q (exOf e) a' w') → c.wp P Q a w
theorem loop_key {x : Code} (hx : CodeOK P E B N w0 S0 β0 x) {Q : Exit → Act → World → Prop} {s2 : St} {e : Ex} (hQ : ∀ a' w', RelE E B N w0 S0 β0 s2 a' w' → Q (exOf e) a' w') {s : St} (hl : LoopOK E x s e s2) :
    ∀ (a : Act) (w : World), RelE E B N w0 S0 β0 s a w → ∀ (b : Frame) (k : List Item) (cs : List Frame), ∃ e' a' w', Q e' a' w' ∧ Arrives P (lone (b.at a (.code x :: .inLoop x :: k)) cs w) b k cs e' a' w' := by
  induction hl with
  | @stop s s1 e kt kh h hn hc =>
    intro a w rel b k cs
    rw [T.bind_some] at h
    obtain ⟨⟨e1, s3⟩, h1, h2⟩ := h
    rw [show lessR kt kh (e1, s3) = .ret (e1, less kt kh s3) from rfl, T.ret_some] at h2
    cases h2
    obtain ⟨e', a', w', hq, harr⟩ := hx s e s3 a w (fun e' a' w' => e' = exOf e ∧ RelE E B N w0 S0 β0 s3 a' w') rel h1 (fun a' w' r => ⟨rfl, r⟩) b (.inLoop x :: k) cs
    obtain ⟨rfl, hr⟩ := hq
    refine ⟨exOf e, a', w', hQ a' w' (less_relE hr kt kh hc), .pass (x := .inLoop x) rfl (fun _ _ => .inl ?_) harr⟩
    cases e <;> first | exact absurd rfl hn | simp [exOf]
  | @next s s1 s2 e kt kh h hc hl ih =>
    intro a w rel b k cs
    rw [T.bind_some] at h
    obtain ⟨⟨e1, s3⟩, h1, h2⟩ := h
    rw [show lessR kt kh (e1, s3) = .ret (e1, less kt kh s3) from rfl, T.ret_some] at h2
    cases h2
    obtain ⟨e', a', w', hq, harr⟩ := hx s .normal s3 a w (fun e' a' w' => e' = .normal ∧ RelE E B N w0 S0 β0 s3 a' w') rel h1 (fun a' w' r => ⟨rfl, r⟩) b (.inLoop x :: k) cs
    obtain ⟨rfl, hr⟩ := hq
    obtain ⟨e2, a2, w2, q2, r2⟩ := ih hQ a' w' (less_relE hr kt kh hc) b k cs
    exact ⟨e2, a2, w2, q2, .of_steps (Steps.trans harr (.one step_inLoop)) r2⟩
  | @weak s s2 e kt kh hc hl ih =>
    intro a w rel b k cs
    exact ih hQ a w (less_relE rel kt kh hc) b k cs
  | @own s s2 e kb j ky t n hb hl ih =>
    intro a w rel b k cs
    exact ih hQ a w (own_relE rel hb) b k cs
theorem exec_sound (ok : EnvOK P E) (hm : P.follows .mixedOrders = true) {L : List Code} (hlp : ∀ x ∈ L, ∀ s e s', (E.lp (lid x) s).val = some (e, s') → LoopOK E x s e s') : ∀ c : Code, (∀ x ∈ loopsOf c, x ∈ L) → dstsOK N c = true → CodeOK P E B N w0 S0 β0 c := by
  intro c
  induction c with
  | skip =>
    intro _ _ s e s' a w Q rel hs hQ
    rw [exec, done, T.ret_some] at hs
    cases hs
    exact wp_skip (hQ a w rel)
  | region id ops dr =>
    intro _ hd s e s' a w Q rel hs hQ
    have hd' : DstOK N ops := fun o ho d hdd => by
      have := List.all_eq_true.1 hd o ho
      rw [hdd] at this
      simpa using this
    cases dr with
    | false =>
      simp only [exec, T.bind_some] at hs
      obtain ⟨s1, h1, h2⟩ := hs
      rw [done, T.ret_some] at h2
      cases h2
      exact region_sound ok hd' rel h1 hQ
    | true =>
      simp only [exec, T.bind_some] at hs
      obtain ⟨s1, h1, h2⟩ := hs
      rw [done, T.ret_some] at h2
      cases h2
      exact draw_sound ok hd' hm rel h1 hQ
  | seq x y ihx ihy =>
    intro hL hd s e s' a w Q rel hs hQ
    simp only [dstsOK, Bool.and_eq_true] at hd
    rw [exec, T.bind_some] at hs
    obtain ⟨⟨e1, s1⟩, h1, h2⟩ := hs
    refine wp_seq (ihx (fun z hz => hL z (by simp [loopsOf, hz])) hd.1 s e1 s1 a w _ rel h1 fun a' w' r => ?_)
    cases e1 with
    | normal => exact ihy (fun z hz => hL z (by simp [loopsOf, hz])) hd.2 s1 e s' a' w' Q r h2 hQ
    | exit i => rw [T.ret_some] at h2; cases h2; exact hQ a' w' r
    | ret => rw [T.ret_some] at h2; cases h2; exact hQ a' w' r
  | cond c x y ihx ihy =>
    intro hL hd s e s' a w Q rel hs hQ
    simp only [dstsOK, Bool.and_eq_true] at hd
    rw [exec] at hs
    split at hs
    · rename_i b hb
      refine wp_cond (eval_bool rel hb) ?_
      rw [T.ifB_some] at hs
      rcases hs with ⟨rfl, hs⟩ | ⟨rfl, hs⟩
      · exact ihx (fun z hz => hL z (by simp [loopsOf, hz])) hd.1 s e s' a w Q rel hs hQ
      · exact ihy (fun z hz => hL z (by simp [loopsOf, hz])) hd.2 s e s' a w Q rel hs hQ
    · rw [T.fail_some] at hs; exact hs.elim
  | block id x ihx =>
    intro hL hd s e s' a w Q rel hs hQ
    rw [exec, T.bind_some] at hs
    obtain ⟨⟨e1, s1⟩, h1, h2⟩ := hs
    refine wp_block (ihx (fun z hz => hL z (by simpa [loopsOf] using hz)) hd s e1 s1 a w _ rel h1 fun a' w' r => ?_)
    cases e1 with
    | normal => rw [T.ret_some] at h2; cases h2; exact hQ a' w' r
    | ret => rw [T.ret_some] at h2; cases h2; exact hQ a' w' r
    | exit i =>
      simp only [exOf, Exit.inBlock]
      simp only [] at h2
      cases hi : Nat.beq i id with
      | true =>
        rw [if_pos (beq_true.1 hi)]
        simp only [hi] at h2
        rw [T.ret_some] at h2; cases h2; exact hQ a' w' r
      | false =>
        rw [if_neg (beq_false.1 hi)]
        simp only [hi] at h2
        rw [T.ret_some] at h2; cases h2; exact hQ a' w' r
  | loop x ihx =>
    intro hL hd s e s' a w Q rel hs hQ
    rw [exec] at hs
    have hl := hlp x (hL x (by simp [loopsOf])) s e s' hs
    have hx := ihx (fun z hz => hL z (by simp [loopsOf, hz])) hd
    intro b k cs
    obtain ⟨e', a', w', hq, harr⟩ := loop_key hx hQ hl a w rel b k cs
    exact ⟨e', a', w', hq, .of_steps (.one step_loop) harr⟩
  | exit id =>
    intro _ _ s e s' a w Q rel hs hQ
    rw [exec, T.ret_some] at hs
    cases hs
    exact wp_exit (hQ a w rel)
  | ret =>
    intro _ _ s e s' a w Q rel hs hQ
    rw [exec, T.ret_some] at hs
    cases hs
    exact wp_ret (hQ a w rel)
  | _ =>
    intro _ _ s e s' a w Q rel hs hQ
    simp [exec, T.val] at hs

def resSem (a : Act) : ResultVar → Sem Value
  | .tmp t => Pure.pure (a.tmps.getD t undef)
  | .cell q t => do loadVar t (← asAddr (a.tmps.getD q undef))
theorem run_res (ok : EnvOK P E) (rel : Rel E B N w0 S0 β0 s a w S β) (r : ResultVar) {x : AV} (hx : (resOf E s r).val = some x) : ∃ u, (resSem a r).run P w = .ok u w ∧ RV w S β x u := by
  cases r with
  | tmp t =>
    simp only [resOf, T.ret_some] at hx
    subst hx
    exact ⟨_, rfl, rel.tok t⟩
  | cell q t =>
    simp only [resOf] at hx
    split at hx
    · rename_i ti hti
      obtain ⟨u, h1, h2⟩ := run_loadK (P := P) ok.ty rel.inv hti (rel.tok q) hx
      refine ⟨u, ?_, h2⟩
      have : ∃ ad, a.tmps.getD q undef = .pointer (some ad) := by
        have hq := rel.tok q
        unfold loadK at hx
        split at hx
        · rename_i row off hr; rw [hr] at hq; obtain ⟨b, o, h, _⟩ := rv_pel hq; exact ⟨_, h⟩
        · rename_i k i off hr; rw [hr] at hq; obtain ⟨X, _, _, h⟩ := rv_ptr hq; exact ⟨_, h⟩
        · rw [T.fail_some] at hx; exact hx.elim
      obtain ⟨ad, had⟩ := this
      show (do loadVar t (← asAddr (a.tmps.getD q undef)) : Sem Value).run P w = _
      rw [had] at h1 ⊢
      simpa [Instr.loadAt, Instr.sureAddr, asAddr] using h1
    · rw [T.fail_some] at hx; exact hx.elim
theorem run_ress (ok : EnvOK P E) (rel : Rel E B N w0 S0 β0 s a w S β) : ∀ (rs : List ResultVar) {xs : List AV}, (ress E s rs).val = some xs →
    ∃ us : List Value, (rs.mapM (resSem a)).run P w = .ok us w ∧ RL (RV w S β) xs us
  | [], xs, hx => by
    simp only [ress, T.ret_some] at hx
    subst hx
    exact ⟨[], by simp, trivial⟩
  | r :: rs, xs, hx => by
    simp only [ress, T.bind_some, T.ret_some] at hx
    obtain ⟨x, h1, xs', h2, rfl⟩ := hx
    obtain ⟨u, h3, h4⟩ := run_res ok rel r h1
    obtain ⟨us, h5, h6⟩ := run_ress ok rel rs h2
    exact ⟨u :: us, by rw [List.mapM_cons]; simp only [Sem.run_bind, h3, Result.andThen_ok, h5, Sem.run_pure], h4, h6⟩
theorem run_results (ok : EnvOK P E) (rel : Rel E B N w0 S0 β0 s a w S β) (fn : Func) {xs : List AV} (hx : (ress E s fn.results.toList).val = some xs) :
    ∃ u, (results fn a.tmps).run P w = .ok u w ∧ RV w S β (resAV xs) u := by
  obtain ⟨us, h1, h2⟩ := run_ress ok rel _ hx
  have hr : (results fn a.tmps).run P w = .ok (if h : us.toArray.size = 1 then us.toArray[0] else .tuple us.toArray) w := by
    have e : results fn a.tmps = (do let vs ← fn.results.mapM (resSem a); Pure.pure (if h : vs.size = 1 then vs[0] else .tuple vs)) := rfl
    rw [e, Array.mapM_eq_mapM_toList]
    simp [h1]
  refine ⟨_, hr, ?_⟩
  have hlen := h2.length
  rcases xs with _ | ⟨x, _ | ⟨y, xs⟩⟩ <;> rcases us with _ | ⟨u, _ | ⟨u2, us⟩⟩ <;> first | (simp at hlen; done) | skip
  · simp
    exact ⟨[], rfl, trivial⟩
  · simp
    exact noGd_rv h2.1
  · simp only [List.size_toArray, List.length_cons]
    rw [dif_neg (by omega)]
    refine ⟨u :: u2 :: us, rfl, h2.map fun b hb u hu => ?_⟩
    unfold flatOnly
    split
    · trivial
    · trivial
    · rename_i n1 n2
      rw [RV_eq n2 n1] at hu
      exact hu
theorem mget_numbered : ∀ (l : List AV) (i : Nat) (acc : Tmps) (n : Nat), mget (numbered i l acc) n = if i ≤ n ∧ n < i + l.length then l[n - i]? else mget acc n
  | [], i, acc, n => by
    simp only [numbered, List.length_nil, Nat.add_zero]
    rw [if_neg (by omega)]
  | x :: l, i, acc, n => by
    rw [numbered, mget_numbered l (i + 1) _ n]
    simp only [List.length_cons, mget]
    by_cases h1 : n = i
    · subst h1
      rw [if_neg (by omega), if_pos (by omega), beq_true.2 rfl]
      simp
    · rw [beq_false.2 h1]
      by_cases h2 : i + 1 ≤ n ∧ n < i + 1 + l.length
      · rw [if_pos h2, if_pos (by omega)]
        obtain ⟨q, hq⟩ : ∃ q, n - i = q + 1 := ⟨n - i - 1, by omega⟩
        rw [hq, List.getElem?_cons_succ]
        congr 1; omega
      · rw [if_neg h2, if_neg (by omega)]
theorem view0_noown {hg : Nat → Option Blk} {x : AV} (hn : ∀ k, x ≠ .own k) (hw : ∀ k lo n, x ≠ .win k lo n) (hr : RC w S β x v) : R0 w S (view0 hg x) v := by
  have h1 := hr.one
  cases x
  case own k => exact absurd rfl (hn k)
  case win k lo n => exact absurd rfl (hw k lo n)
  case e0 =>
    obtain ⟨A, rfl⟩ := hr
    exact R0.sl (rows := []) (size := 0) (b := 0) (off := 0) (vals := fun _ _ => .nilFunc) (by simp) (by simp) (by simp) (by simp) (by simp) (by simp)
  case v y => exact hr
  case sl rows => exact hr
  case nz b rows => exact hr.1
  case fn f cs =>
    obtain ⟨vs, rfl, h2⟩ := hr
    cases cs
    · cases vs
      · exact .fn f
      · exact h2.elim
    · exact .unk rfl
  all_goals exact .unk h1
theorem keptB_spec {ks : List Nat} : ∀ {l : List Nat} {H : Heap}, keptB h ks l = some H → (∀ p bl, mget H p = some bl → ∃ j ∈ l, p = posIn ks j ∧ mget h j = some bl ∧ bl.box = false) ∧ (∀ j ∈ l, ∃ bl, mget h j = some bl ∧ bl.box = false ∧ ∃ b2, mget H (posIn ks j) = some b2)
  | [], H, hh => by
    simp only [keptB, Option.some.injEq] at hh
    subst hh
    exact ⟨fun p bl hp => by simp [mget] at hp, fun j hj => by simp at hj⟩
  | j :: r, H, hh => by
    simp only [keptB] at hh
    split at hh
    · rename_i bl hbl
      split at hh
      · cases hh
      · rename_i hbox
        split at hh
        · rename_i H' hH
          cases hh
          obtain ⟨i1, i2⟩ := keptB_spec hH
          refine ⟨fun p b hp => ?_, fun q hq => ?_⟩
          · simp only [mget] at hp
            split at hp
            · rename_i hb
              cases hp
              exact ⟨j, by simp, beq_true.1 hb, hbl, hbox⟩
            · obtain ⟨q, h1, h2⟩ := i1 p b hp
              exact ⟨q, by simp [h1], h2⟩
          · rcases List.mem_cons.1 hq with rfl | hq
            · exact ⟨bl, hbl, hbox, bl, by simp [mget]⟩
            · obtain ⟨b, h1, h2, b2, h3⟩ := i2 q hq
              refine ⟨b, h1, h2, ?_⟩
              simp only [mget]
              split
              · exact ⟨_, rfl⟩
              · exact ⟨b2, h3⟩
        · cases hh
    · cases hh
theorem run_startC (ok : EnvOK P E) {f : FuncId} {fn : Func} (hf : P.funcs[f]? = some fn)
    {c : Code} (hc : fn.body = some c) (hd : dstsOK fn.ntmps c = true) {hin : Heap} {args : List AV} {cargs : List Value} (inv : Inv E B w S β0 hin) (hargs : RL (RV w S β0) args cargs) {s2 : St} {ee : Ex} (he : ee = .normal ∨ ee = .ret)
    (h1 : ∀ N a w', dstsOK N c = true → RelE E B N w S β0 ⟨numbered 0 (args.map noGd) [], hin⟩ a w' → ∀ Q : Exit → Act → World → Prop, (∀ a1 w1, RelE E B N w S β0 s2 a1 w1 → Q (exOf ee) a1 w1) → c.wp P Q a w') {xs : List AV} (h3 : (ress E s2 fn.results.toList).val = some xs) {R : Ending → World → Prop}
    (hQ : ∀ w' S2 β2 a' u, Rel E B (cargs.length + (fn.ntmps - cargs.length)) w S β0 s2 a' w' S2 β2 → RV w' S2 β2 (resAV xs) u → R (.returned u) w') : Calls P f cargs.toArray w R := by
  have hlen := hargs.length
  have hN : fn.ntmps ≤ cargs.length + (fn.ntmps - cargs.length) := by omega
  have rel0 : RelE E B (cargs.length + (fn.ntmps - cargs.length)) w S β0 ⟨numbered 0 (args.map noGd) [], hin⟩ { tmps := cargs.toArray ++ Array.replicate (fn.ntmps - cargs.toArray.size) undef, defers := [] } w := by
    refine ⟨S, β0, inv, fun n => ?_, fun n j b want x hn => ?_, Blw.refl _ _, fun _ h => h, fun _ h => .inl h, fun _ _ _ _ h => h, by simp, rfl⟩
    · unfold getT
      rw [mget_numbered _ 0 [] n]
      simp only [Nat.zero_add, List.length_map, Nat.sub_zero, List.getElem?_map, Nat.zero_le, true_and]
      by_cases hn : n < args.length
      · rw [if_pos hn, List.getElem?_eq_getElem hn]
        obtain ⟨u, hu, hru⟩ := hargs.get (List.getElem?_eq_getElem hn)
        have : (cargs.toArray ++ Array.replicate (fn.ntmps - cargs.toArray.size) undef).getD n undef = u := by
          rw [Array.getD_eq_getD_getElem?, Array.getElem?_append_left (by simp; omega)]
          simp [hu]
        rw [this]
        exact noGd_rv hru
      · rw [if_neg hn]; trivial
    · exfalso
      unfold getT at hn
      rw [mget_numbered _ 0 [] n] at hn
      simp only [Nat.zero_add, List.length_map, Nat.sub_zero, List.getElem?_map, Nat.zero_le, true_and] at hn
      by_cases hl : n < args.length
      · rw [if_pos hl, List.getElem?_eq_getElem hl] at hn
        exact noGd_ne hn
      · rw [if_neg hl] at hn
        cases hn
  have hd' : dstsOK (cargs.length + (fn.ntmps - cargs.length)) c = true := by
    have mono : ∀ c, dstsOK fn.ntmps c = true → dstsOK (cargs.length + (fn.ntmps - cargs.length)) c = true := by
      intro c
      induction c with
      | region id ops dr =>
        intro hh
        refine List.all_eq_true.2 fun o ho => ?_
        have := List.all_eq_true.1 hh o ho
        cases hod : o.dst with
        | none => rfl
        | some d => rw [hod] at this; simp at this ⊢; omega
      | seq x y ihx ihy => intro hh; simp only [dstsOK, Bool.and_eq_true] at hh ⊢; exact ⟨ihx hh.1, ihy hh.2⟩
      | cond q x y ihx ihy => intro hh; simp only [dstsOK, Bool.and_eq_true] at hh ⊢; exact ⟨ihx hh.1, ihy hh.2⟩
      | block id x ih => intro hh; exact ih hh
      | loop x ih => intro hh; exact ih hh
      | _ => intro _; rfl
    exact mono c hd
  refine calls_of_wp hf hc (h1 _ _ w hd' rel0 _ fun a' w' rel2 => ?_)
  obtain ⟨S2, β2, rel⟩ := rel2
  obtain ⟨u, hu1, hu2⟩ := run_results ok rel fn h3
  rcases he with rfl | rfl
  · exact ⟨rel.defers, u, hu1, hQ w' S2 β2 a' u rel hu2⟩
  · exact ⟨rel.defers, u, hu1, hQ w' S2 β2 a' u rel hu2⟩
theorem run_startE (ok : EnvOK P E) (hm : P.follows .mixedOrders = true) {f : FuncId} {fn : Func} (hf : P.funcs[f]? = some fn) (hlp : ∀ x ∈ Func.loops fn, ∀ s e s', (E.lp (lid x) s).val = some (e, s') → LoopOK E x s e s')
    {c : Code} (hc : fn.body = some c) (hd : dstsOK fn.ntmps c = true) {hin : Heap} {args : List AV} {cargs : List Value} (inv : Inv E B w S β0 hin) (hargs : RL (RV w S β0) args cargs) {s2 : St} {ee : Ex} (he : ee = .normal ∨ ee = .ret)
    (h1 : (exec E c ⟨numbered 0 (args.map noGd) [], hin⟩).val = some (ee, s2)) {xs : List AV} (h3 : (ress E s2 fn.results.toList).val = some xs) {R : Ending → World → Prop}
    (hQ : ∀ w' S2 β2 a' u, Rel E B (cargs.length + (fn.ntmps - cargs.length)) w S β0 s2 a' w' S2 β2 → RV w' S2 β2 (resAV xs) u → R (.returned u) w') : Calls P f cargs.toArray w R :=
  have hlp' : ∀ x ∈ loopsOf c, x ∈ Func.loops fn := fun x hx => by unfold Func.loops; rw [hc]; exact hx
  run_startC ok hf hc hd inv hargs he (fun N a w' hdN rel Q hQ' => exec_sound ok hm hlp c hlp' hdN _ ee s2 a w' Q rel h1 hQ') h3 hQ
theorem runC_sound (ok : EnvOK P E) {f : FuncId} {fn : Func} (hf : P.funcs[f]? = some fn) {c : Code} (hc : fn.body = some c) (hd : dstsOK fn.ntmps c = true) {keep : Bool} {args : List AV} {r : AV} {H : Heap} {s2 : St}
    (h1 : ∀ (w : World) (S : Nat → Prop), (∀ b, S b → b < w.heap.size) → ∀ N a w', dstsOK N c = true → RelE E (fun b => b < w.heap.size) N w S noKeys ⟨numbered 0 (args.map noGd) [], []⟩ a w' → ∀ Q : Exit → Act → World → Prop, (∀ a1 w1, RelE E (fun b => b < w.heap.size) N w S noKeys s2 a1 w1 → Q (exOf .ret) a1 w1) → c.wp P Q a w')
    {xs : List AV} (h3 : (ress E s2 fn.results.toList).val = some xs) (h4 : (finish keep s2 (resAV xs)).val = some (r, H)) : SpecP P E.glob f args r H := by
  intro w S cargs hlt hglob hargs
  have inv0 : Inv E (fun b => b < w.heap.size) w S noKeys [] := ⟨fun _ h => h, hlt, (fun _ _ _ _ h => by cases h), (fun _ _ h => by cases h), (fun _ _ h => by cases h), (fun k bl hk => by simp [mget] at hk), hglob⟩
  refine run_startC ok hf hc hd inv0 hargs (.inr rfl) (h1 w S hlt) h3 fun w' S2 β2 a' u rel hu2 => ?_
  have inv := rel.inv
  refine ⟨u, ?_⟩
  have h4' : (finish keep s2 (resAV xs)).val = some (r, H) := h4
  generalize resAV xs = r0 at hu2 h4'
  unfold finish at h4'
  cases keep with
  | false =>
    simp only [T.ret_some] at h4'
    cases h4'
    refine ⟨plusOwn S2 β2, noKeys, rfl, rel.below.below, fun b hb => .inl (rel.sub b hb), ?_, ?_, (fun _ _ _ _ h => by cases h), (fun _ _ h => by cases h), (fun _ _ h => by cases h), (fun k bl hk => by simp [mget] at hk), view2_rep (fun b hb => .inl hb) (sees_own inv _) hu2⟩
    · rintro b (hb | ⟨k, x, k1, k2, rfl⟩)
      · exact (rel.news b hb).imp id (fun h => by omega)
      · exact .inr (by have := (inv.new k x k1 k2).1; omega)
    · rintro b (hb | ⟨k, x, k1, k2, rfl⟩)
      · exact inv.lt b hb
      · exact (inv.new k x k1 k2).2.1
  | true =>
    simp only [] at h4'
    split at h4'
    · rename_i hnd
      split at h4'
      · rename_i H' hH
        rw [T.ret_some] at h4'
        cases h4'
        have hnd := nodupB_spec hnd
        obtain ⟨q1, q2⟩ := keptB_spec hH
        let β3 : Nat → Option BI := fun p => ((refs2 r0)[p]?).bind β2
        have b3 : ∀ p x, β3 p = some x → ∃ j, (refs2 r0)[p]? = some j ∧ β2 j = some x := by
          intro p x hp
          simp only [β3, Option.bind_eq_some_iff] at hp
          exact hp
        have b4 : ∀ j ∈ refs2 r0, ∀ x, β2 j = some x → β3 (posIn (refs2 r0) j) = some x := by
          intro j hj x hx
          simp only [β3, posIn_get hj, Option.bind_some, hx]
        have pinj : ∀ p j, (refs2 r0)[p]? = some j → posIn (refs2 r0) j = p := by
          intro p j hp
          have h1 := posIn_get (List.mem_of_getElem? hp)
          have l1 := (List.getElem?_eq_some_iff.1 h1)
          have l2 := (List.getElem?_eq_some_iff.1 hp)
          obtain ⟨l1, e1⟩ := l1
          obtain ⟨l2, e2⟩ := l2
          exact nodup_inj hnd l1 l2 (by rw [e1, e2])
        refine ⟨S2, β3, rfl, rel.below.below, rel.sub, fun b hb => (rel.news b hb).imp id (fun h => by omega), inv.lt, ?_, ?_, ?_, ?_, ?_⟩
        · intro k k' x x' k1 k2 r1 r2 e
          obtain ⟨j, j1, j2⟩ := b3 k x k1
          obtain ⟨j', j1', j2'⟩ := b3 k' x' k2
          have := inv.inj j j' x x' j2 j2' r1 r2 e
          subst this
          rw [← pinj k j j1, ← pinj k' j j1']
        · intro k x k1 r1
          obtain ⟨j, j1, j2⟩ := b3 k x k1
          obtain ⟨n1, n2, n3⟩ := inv.new j x j2 r1
          exact ⟨by omega, n2, n3⟩
        · intro k x k1
          obtain ⟨j, j1, j2⟩ := b3 k x k1
          obtain ⟨bl, m1, m2, b2, m3⟩ := q2 j (List.mem_of_getElem? j1)
          rw [pinj k j j1] at m3
          obtain ⟨j', n1, n2, n3, n4⟩ := q1 k b2 m3
          have hj' : j' = j := by
            have := posIn_get n1
            rw [← n2, j1] at this
            cases this; rfl
          subst hj'
          obtain ⟨bl', d1, d2, d3⟩ := inv.dom j' x j2
          rw [n3] at d1
          cases d1
          refine ⟨b2, m3, n4, fun hre => ?_, fun hre => (d3 hre).1⟩
          obtain ⟨cs, ty, c1, c2, c3, c4, c5, c6, c7, c8⟩ := d2 hre
          refine ⟨cs, ty, c1, c2, c3, c4, c5, c6, c7, fun i row hi => ⟨(c8 i row hi).1, fun q y hy => ?_⟩⟩
          obtain ⟨u1, hu, hru⟩ := (c8 i row hi).2 q y hy
          rw [n4] at hru
          exact ⟨u1, hu, by rw [n4]; simpa using hru⟩
        · intro k bl hk
          obtain ⟨j, n1, n2, n3, n4⟩ := q1 k bl hk
          obtain ⟨x, hx⟩ := inv.cov j bl n3
          exact ⟨x, by rw [n2]; exact b4 j n1 x hx⟩
        · -- the result
          have k0 : ∀ x u, (∀ k ∈ refsC x, k ∈ refs2 r0) → RC w' S2 β2 x u → RC w' S2 β3 (keep0 s2.h (refs2 r0) x) u := by
            intro x u hk hx
            by_cases hn : ∃ k, x = .own k
            · obtain ⟨k, rfl⟩ := hn
              obtain ⟨y, y1, y2⟩ := hx
              exact ⟨y, b4 k (hk k (by simp [refsC, refs0])) y y1, y2⟩
            by_cases hw : ∃ k lo n, x = .win k lo n
            · obtain ⟨k, lo, n, rfl⟩ := hw
              exact R0.rc (.unk hx.one)
            · have e : keep0 s2.h (refs2 r0) x = view0 (mget s2.h) x := by cases x <;> first | rfl | exact absurd ⟨_, rfl⟩ hn | exact absurd ⟨_, _, _, rfl⟩ hw
              rw [e]
              exact (view0_noown (fun k e => hn ⟨k, e⟩) (fun k lo n e => hw ⟨k, lo, n, e⟩) hx).rc
          have k1 : ∀ x u, (∀ k ∈ refs1 x, k ∈ refs2 r0) → RT w' S2 β2 x u → RT w' S2 β3 (keep1 s2.h (refs2 r0) x) u := by
            intro x u hk hx
            by_cases hn : ∃ cs, x = .agg cs
            · obtain ⟨cs, rfl⟩ := hn
              obtain ⟨vs, v1, v2⟩ := hx
              exact ⟨vs, v1, v2.map fun b hb u hu => k0 b u (fun k hkk => hk k (by simp only [refs1, List.mem_flatMap]; exact ⟨b, hb, hkk⟩)) hu⟩
            · have hn' : ∀ cs, x ≠ .agg cs := fun cs e => hn ⟨cs, e⟩
              by_cases hun : x = .unk
              · subst hun; trivial
              · rw [RT_eq hn' hun] at hx
                rw [refs1_eq hn'] at hk
                have e : keep1 s2.h (refs2 r0) x = keep0 s2.h (refs2 r0) x := by cases x <;> first | rfl | exact absurd rfl (hn' _)
                rw [e]
                exact (k0 x u hk hx).rt
          by_cases hn : ∃ cs, r0 = .tup cs
          · obtain ⟨cs, rfl⟩ := hn
            obtain ⟨vs, v1, v2⟩ := hu2
            exact ⟨vs, v1, v2.map fun b hb u hu => k1 b u (fun k hkk => by simp only [refs2, List.mem_flatMap]; exact ⟨b, hb, hkk⟩) hu⟩
          · have hn' : ∀ cs, r0 ≠ .tup cs := fun cs e => hn ⟨cs, e⟩
            by_cases hgd : ∃ j b want y, r0 = .gd j b want y
            · obtain ⟨j, b, want, y, rfl⟩ := hgd
              trivial
            · have hgd' : ∀ j b w y, r0 ≠ .gd j b w y := fun j b w y e => hgd ⟨j, b, w, y, e⟩
              rw [RV_eq hn' hgd'] at hu2
              have e : keep2 s2.h (refs2 r0) r0 = keep1 s2.h (refs2 r0) r0 := by cases r0 <;> first | rfl | exact absurd rfl (hn' _)
              rw [e]
              exact RT.rv (k1 r0 u (fun k hkk => by rw [refs2_eq hn' hgd']; exact hkk) hu2)
      · rw [T.fail_some] at h4'; exact h4'.elim
    · rw [T.fail_some] at h4'; exact h4'.elim
theorem runF_sound (ok : EnvOK P E) (hm : P.follows .mixedOrders = true) {f : FuncId} {fn : Func} (hf : P.funcs[f]? = some fn) (hlp : ∀ x ∈ Func.loops fn, ∀ s e s', (E.lp (lid x) s).val = some (e, s') → LoopOK E x s e s')
    {keep : Bool} {args : List AV} {r : AV} {H : Heap} (hr : (runF E keep fn args).val = some (r, H)) : SpecP P E.glob f args r H := by
  intro w S cargs hlt hglob hargs
  unfold runF at hr
  split at hr
  · rw [T.fail_some] at hr; exact hr.elim
  · rename_i c hc
    split at hr
    · rename_i hd
      rw [T.bind_some] at hr
      obtain ⟨⟨e, s2⟩, h1, h2⟩ := hr
      simp only [] at h2
      cases e with
      | normal => rw [T.fail_some] at h2; exact h2.elim
      | exit i => rw [T.fail_some] at h2; exact h2.elim
      | ret =>
        rw [T.bind_some] at h2
        obtain ⟨xs, h3, h4⟩ := h2
        have hlp' : ∀ x ∈ loopsOf c, x ∈ Func.loops fn := fun x hx => by unfold Func.loops; rw [hc]; exact hx
        exact runC_sound ok hf hc hd (fun w S _ N a w' hdN rel Q hQ' => exec_sound ok hm hlp c hlp' hdN _ .ret s2 a w' Q rel h1 hQ') h3 h4 w S cargs hlt hglob hargs
    · rw [T.fail_some] at hr; exact hr.elim
theorem outHeap_of {hg : Nat → Option Blk} {f : Nat → Nat} : ∀ {l : List Nat} {k' : Nat} {bl : Blk}, mget (outHeap hg f l) k' = some bl → ∃ k ∈ l, k' = f k ∧ ∃ b, hg k = some b ∧ bl = b.ren f
  | [], k', bl, hh => by cases hh
  | k :: l, k', bl, hh => by
    simp only [outHeap] at hh
    split at hh
    · rename_i b hb
      simp only [mget] at hh
      split at hh
      · rename_i he
        cases hh
        exact ⟨k, by simp, beq_true.1 he, b, hb, rfl⟩
      · obtain ⟨k1, h1, h2⟩ := outHeap_of hh
        exact ⟨k1, by simp [h1], h2⟩
    · obtain ⟨k1, h1, h2⟩ := outHeap_of hh
      exact ⟨k1, by simp [h1], h2⟩
theorem outHeap_some {hg : Nat → Option Blk} {f : Nat → Nat} : ∀ {l : List Nat} {k : Nat}, k ∈ l → hg k ≠ none → mget (outHeap hg f l) (f k) ≠ none
  | j :: l, k, hk, hb => by
    simp only [outHeap]
    by_cases e : k = j
    · subst e
      cases hj : hg k with
      | none => exact absurd hj hb
      | some b => simp [mget]
    · have hl : k ∈ l := by rcases List.mem_cons.1 hk with h | h; exact absurd h e; exact h
      split
      · simp only [mget]
        split
        · simp
        · exact outHeap_some hl hb
      · exact outHeap_some hl hb
theorem posIn_at {ks : List Nat} (hn : ks.Nodup) {i k : Nat} (hi : ks[i]? = some k) : posIn ks k = i := by
  obtain ⟨l1, e1⟩ := List.getElem?_eq_some_iff.1 (posIn_get (List.mem_of_getElem? hi))
  obtain ⟨l2, e2⟩ := List.getElem?_eq_some_iff.1 hi
  exact nodup_inj hn l1 l2 (by rw [e1, e2])
theorem runH_sound (ok : EnvOK P E) (hm : P.follows .mixedOrders = true) {f : FuncId} {fn : Func} (hf : P.funcs[f]? = some fn) (hlp : ∀ x ∈ Func.loops fn, ∀ s e s', (E.lp (lid x) s).val = some (e, s') → LoopOK E x s e s')
    {mv mv' : List Nat} {args : List AV} {hin : Heap} {r : AV} {H : Heap} (hr : (runH E mv fn args hin).val = some (r, H, mv')) : SpecH P E.glob f args hin r H mv' := by
  intro w S β cargs inv0 hargs
  unfold runH at hr
  split at hr
  · rw [T.fail_some] at hr; exact hr.elim
  · rename_i c hc
    split at hr
    · rename_i hck
      rw [Bool.and_eq_true] at hck
      obtain ⟨hd, hins⟩ := hck
      have hins : ∀ k ∈ hin.map (·.1), inK k ∧ (k ∉ mv → E.mv k = false) := fun k hk => by
        have := List.all_eq_true.1 hins k hk
        rw [Bool.and_eq_true] at this
        refine ⟨isIn_true.1 this.1, fun hn => ?_⟩
        have h2 := this.2
        rw [Bool.or_eq_true] at h2
        rcases h2 with h2 | h2
        · exact absurd (elem_true h2) hn
        · simpa using h2
      rw [T.bind_some] at hr
      obtain ⟨⟨e, s2⟩, h1, h2⟩ := hr
      simp only [] at h2
      have hee : (e = .normal ∨ e = .ret) ∧ ((ress E s2 fn.results.toList).bind fun as1 => finishH (hin.map (·.1)) mv s2 (resAV as1)).val = some (r, H, mv') := by
        cases e with
        | normal => exact ⟨.inl rfl, h2⟩
        | exit i => rw [T.fail_some] at h2; exact h2.elim
        | ret => exact ⟨.inr rfl, h2⟩
      obtain ⟨hee, h2⟩ := hee
      · skip
        rw [T.bind_some] at h2
        obtain ⟨xs, h3, h4⟩ := h2
        refine run_startE ok hm hf hlp hc hd inv0 hargs hee h1 h3 fun w' S2 β2 a' u rel hu2 => ?_
        have inv := rel.inv
        generalize resAV xs = r0 at hu2 h4
        generalize hin.map (·.1) = ins at hins h4
        unfold finishH finH1 finH2 at h4
        split at h4
        · rename_i hck
          rw [T.ret_some] at h4
          cases h4
          rw [Bool.and_eq_true, Bool.and_eq_true] at hck
          obtain ⟨⟨hcl, hnd⟩, hle⟩ := hck
          have hsub : ∀ k ∈ addK ins (refs2 r0), k ∈ reach (mget s2.h) 2 (addK ins (refs2 r0)) := fun k hk => mem_reach 2 hk
          generalize reach (mget s2.h) 2 (addK ins (refs2 r0)) = ks at hcl hnd hle hsub
          have hi : ∀ k ∈ ins, k ∈ ks := fun k hk => hsub k (mem_addK.2 (.inl hk))
          have hr0 : ∀ k ∈ refs2 r0, k ∈ ks := fun k hk => hsub k (mem_addK.2 (.inr hk))
          have hnd := nodupB_spec hnd
          have hcl := closedK_spec hcl
          have hmem : ∀ k, k ∈ (ks.filter fun k => !(ins.elem k)) ↔ k ∈ ks ∧ k ∉ ins := fun k => by rw [List.mem_filter]; simp
          have hndn : (ks.filter fun k => !(ins.elem k)).Nodup := hnd.filter _
          generalize (ks.filter fun k => !(ins.elem k)) = new at hle hmem hndn
          have hle : new.length ≤ 4 := by simpa using hle
          have rin : ∀ k, k ∈ ins → renF ins new k = k := fun k hk => by
            unfold renF
            have : ins.elem k = true := by simpa using hk
            rw [this]
          have rnew : ∀ k, k ∉ ins → renF ins new k = posIn new k := fun k hk => by
            unfold renF
            have : ins.elem k = false := by rw [← Bool.not_eq_true]; exact fun hh => hk (elem_true hh)
            rw [this]
          have pos_lt : ∀ k ∈ ks, k ∉ ins → posIn new k < 4 := fun k hk hn => by
            obtain ⟨l, _⟩ := List.getElem?_eq_some_iff.1 (posIn_get ((hmem k).2 ⟨hk, hn⟩))
            omega
          have inge : ∀ k ∈ ins, 900 ≤ k := fun k hk => (hins k hk).1.1
          have rinj : ∀ k ∈ ks, ∀ k' ∈ ks, renF ins new k = renF ins new k' → k = k' := by
            intro k hk k' hk' e
            by_cases h1 : k ∈ ins <;> by_cases h2 : k' ∈ ins
            · rw [rin k h1, rin k' h2] at e; exact e
            · rw [rin k h1, rnew k' h2] at e
              have := inge k h1; have := pos_lt k' hk' h2; omega
            · rw [rnew k h1, rin k' h2] at e
              have := inge k' h2; have := pos_lt k hk h1; omega
            · rw [rnew k h1, rnew k' h2] at e
              have e1 := posIn_get ((hmem k).2 ⟨hk, h1⟩)
              have e2 := posIn_get ((hmem k').2 ⟨hk', h2⟩)
              rw [e, e2] at e1
              cases e1; rfl
          let β3 : Nat → Option BI := fun k => if k ∈ ins then β2 k else (new[k]?).bind β2
          have b1 : ∀ j ∈ ks, ∀ x, β2 j = some x → β3 (renF ins new j) = some x := by
            intro j hj x hx
            by_cases h1 : j ∈ ins
            · simp only [β3]; rw [rin j h1, if_pos h1]; exact hx
            · have hlt := pos_lt j hj h1
              simp only [β3]
              rw [rnew j h1, if_neg (fun hh => by have := inge _ hh; omega), posIn_get ((hmem j).2 ⟨hj, h1⟩)]
              exact hx
          have b2 : ∀ k x, β3 k = some x → ∃ j ∈ ks, renF ins new j = k ∧ β2 j = some x := by
            intro k x hx
            simp only [β3] at hx
            split at hx
            · rename_i h1; exact ⟨k, hi k h1, rin k h1, hx⟩
            · rw [Option.bind_eq_some_iff] at hx
              obtain ⟨j, j1, j2⟩ := hx
              obtain ⟨q1, q2⟩ := (hmem j).1 (List.mem_of_getElem? j1)
              exact ⟨j, q1, by rw [rnew j q2, posIn_at hndn j1], j2⟩
          have hat : ∀ j ∈ ks, ∀ b, mget s2.h j = some b → mget (outHeap (mget s2.h) (renF ins new) ks) (renF ins new j) = some (b.ren (renF ins new)) := by
            intro j hj b hb
            cases hm : mget (outHeap (mget s2.h) (renF ins new) ks) (renF ins new j) with
            | none => exact absurd hm (outHeap_some hj (by rw [hb]; simp))
            | some bl =>
              obtain ⟨j', q1, q2, b', q3, rfl⟩ := outHeap_of hm
              have := rinj j hj j' q1 q2
              subst this
              rw [hb] at q3
              cases q3; rfl
          have hsz := rel.below.size
          refine ⟨u, S2, β3, rfl, rel.below, rel.sub, rel.news, ⟨fun b hb => by have := hb.1; omega, inv.lt, fun k k' x x' k1 k2 r1 r2 e => ?_, fun k x k1 r1 => ?_, fun k x k1 => ?_, fun k bl k1 => ?_, inv.glob⟩, fun k x hik hmv hx => ?_, ren2_rv (fun k hk y hy => b1 k (hr0 k hk) y hy) hu2⟩
          · obtain ⟨j, _, e1, j2⟩ := b2 k x k1
            obtain ⟨j', _, e2, j2'⟩ := b2 k' x' k2
            rw [← e1, ← e2, inv.inj j j' x x' j2 j2' r1 r2 e]
          · obtain ⟨j, _, e1, j2⟩ := b2 k x k1
            exact inv.new j x j2 r1
          · obtain ⟨j, j1, e1, j2⟩ := b2 k x k1
            obtain ⟨bl, d1, d2, d3⟩ := inv.dom j x j2
            obtain ⟨bl', c1, c2⟩ := hcl j j1
            rw [d1] at c1
            cases c1
            exact ⟨bl.ren (renF ins new), by rw [← e1]; exact hat j j1 bl d1, fun hr => (d2 hr).ren fun q hq y hy => b1 q (c2 q hq) y hy, fun hr => ren_virt (d3 hr)⟩
          · obtain ⟨j, q1, q2, b, q3, rfl⟩ := outHeap_of k1
            obtain ⟨x, hx⟩ := inv.cov j b q3
            exact ⟨x, by rw [q2]; exact b1 j q1 x hx⟩
          · obtain ⟨j, j1, e1, j2⟩ := b2 k x hx
            by_cases hj : j ∈ ins
            · rw [rin j hj] at e1
              subst e1
              exact rel.fix j x hik ((hins j hj).2 hmv) j2
            · rw [rnew j hj] at e1
              have := pos_lt j j1 hj
              have := hik.1
              omega
        · rw [T.fail_some] at h4; exact h4.elim
    · rw [T.fail_some] at hr; exact hr.elim
theorem SpecP.nil {G : Nat → Option GR} {f : FuncId} {rows : List Row} {r : AV} {H : Heap} (h1 : rows = [] → SpecP P G f [.nz true []] r H) (h2 : SpecP P G f [.nz false rows] r H) : SpecP P G f [.sl rows] r H := by
  intro w S cargs hlt hg hargs
  cases cargs with
  | nil => exact hargs.elim
  | cons v l =>
    cases l with
    | cons u l => exact hargs.2.elim
    | nil =>
      have h0 : R0 w S (.sl rows) v := hargs.1
      cases hv : isNilV v
      · exact h2 w S [v] hlt hg ⟨⟨h0, hv⟩, trivial⟩
      · have hr : rows = [] := by
          cases h0 with
          | sl hc hm hA hl hcell hr =>
            by_cases hn : rows = []
            · exact hn
            · rw [(hA hn).1] at hv; cases hv
        subst hr
        exact h1 rfl w S [v] hlt hg ⟨⟨h0, hv⟩, trivial⟩
end

end

end Go.Proofs.YtajmdlpanlbnjaaGreatDoor.M

namespace Go.Proofs.YtajmdlpanlbnjaaGreatDoor.M
open Go Go.RowKit
set_option linter.unusedVariables false
set_option linter.unusedSimpArgs false

section
variable {α β : Type} {P : Program} {G : Nat → Option GR}
noncomputable def unenc (enc : α → β) (b : β) : Option α := by classical exact if h : ∃ a, enc a = b then some (Classical.choose h) else none
theorem unenc_some {enc : α → β} {b : β} {a : α} (h : unenc enc b = some a) : b = enc a := by
  unfold unenc at h
  split at h
  · rename_i hx
    have := Classical.choose_spec hx
    simp only [Option.some.injEq] at h
    rw [h] at this
    exact this.symm
  · cases h
theorem unenc_of {enc : α → β} (hi : ∀ a a', enc a = enc a' → a = a') {b : β} (a : α) (hb : b = enc a) : unenc enc b = some a := by
  subst hb
  unfold unenc
  have hx : ∃ a', enc a' = enc a := ⟨a, rfl⟩
  rw [dif_pos hx]
  exact congrArg some (hi _ _ (Classical.choose_spec hx))

def OkA (x : AV) : Prop := ∃ w S β v, RV w S β x v
theorem okA_v {x : Value} (h : OkA (.v x)) : okAtom x := by
  obtain ⟨w, S, β, v, h⟩ := h
  exact (rv_v h).2
theorem okA_int {n : Int} (h : OkA (.v (.int .i64 n))) : -9223372036854775808 ≤ n ∧ n ≤ 9223372036854775807 := by
  have := okA_v h
  simp only [okAtom, IntKind.min, IntKind.max, IntKind.signed, IntKind.bits] at this
  simp at this
  omega
theorem okA_str {s : ByteArray} (h : OkA (.v (.string s))) : s.size ≤ 9223372036854775807 := okA_v h
theorem okA_agg {cs : List AV} (h : OkA (.agg cs)) : ∀ c ∈ cs, OkA c := by
  obtain ⟨w, S, β, v, vs, h1, h2⟩ := h
  intro c hc
  obtain ⟨i, hi⟩ := List.getElem?_of_mem hc
  obtain ⟨u, _, hu⟩ := h2.get hi
  exact ⟨w, S, β, u, RT.rv (RC.rt hu)⟩
theorem okA_sl {rows : List Row} (h : OkA (.sl rows)) : rows.length ≤ 9223372036854775807 ∧ ∀ row ∈ rows, ∀ a ∈ row, OkA a := by
  obtain ⟨w, S, β, v, h⟩ := h
  have h' : R0 w S (.sl rows) v := h
  cases h' with
  | sl hc hm hA hl hcell hr =>
    refine ⟨by omega, fun row hrow a ha => ?_⟩
    obtain ⟨i, hi⟩ := List.getElem?_of_mem hrow
    obtain ⟨j, hj⟩ := List.getElem?_of_mem ha
    exact ⟨w, S, β, _, RT.rv (RC.rt (R0.rc (hr i j row a hi hj)))⟩
theorem SpecP.ok {f : FuncId} {args : List AV} {r : AV} {H : Heap} (h : (∀ x ∈ args, OkA x) → SpecP P G f args r H) : SpecP P G f args r H := by
  intro w S cargs hlt hg hargs
  refine h (fun x hx => ?_) w S cargs hlt hg hargs
  obtain ⟨i, hi⟩ := List.getElem?_of_mem hx
  obtain ⟨u, _, hu⟩ := hargs.get hi
  exact ⟨w, S, noKeys, u, hu⟩

def OkK (bl : Blk) : Prop := bl.rows.length ≤ 9223372036854775807 ∧ ∀ row ∈ bl.rows, ∀ a ∈ row, OkA a
theorem SpecH.ok {f : FuncId} {args : List AV} {hin : Heap} {r : AV} {H : Heap} {mv : List Nat} (h : (∀ x ∈ args, OkA x) → (∀ k bl, mget hin k = some bl → OkK bl) → SpecH P G f args hin r H mv) : SpecH P G f args hin r H mv := by
  intro w S β cargs inv hargs
  refine h (fun x hx => ?_) (fun k bl hk => ?_) w S β cargs inv hargs
  · obtain ⟨i, hi⟩ := List.getElem?_of_mem hx
    obtain ⟨u, _, hu⟩ := hargs.get hi
    exact ⟨w, S, β, u, hu⟩
  · obtain ⟨x, hx⟩ := inv.cov k bl hk
    obtain ⟨bl', h1, h2, h3⟩ := inv.dom k x hx
    rw [hk] at h1
    cases h1
    cases hr : x.real
    · rw [OkK, (h3 hr).1]; simp
    · obtain ⟨cs, ty, c1, c2, c3, c4, c5, c6, c7, c8⟩ := h2 hr
      refine ⟨by omega, fun row hrow a ha => ?_⟩
      obtain ⟨i, hi⟩ := List.getElem?_of_mem hrow
      obtain ⟨j, hj⟩ := List.getElem?_of_mem ha
      obtain ⟨v, _, hv⟩ := (c8 i row hi).2 j a hj
      cases hb : bl.box
      · rw [hb] at hv; exact ⟨w, S, β, v, RT.rv (RC.rt (R0.rc (by simpa using hv)))⟩
      · rw [hb] at hv; exact ⟨w, S, β, v, RT.rv (RC.rt (by simpa using hv))⟩

structure Orc where
  f : FuncId
  flat : Bool
  o : List AV → T (AV × Heap)
noncomputable def orc (f : FuncId) (flat : Bool) (enc : α → List AV) (pre : α → Bool) (res : α → AV × Heap) : Orc :=
  ⟨f, flat, fun args => .opt (unenc enc args) fun a => .ifB (pre a) (.ret (res a)) .fail⟩
def findO : List Orc → FuncId → List AV → T (AV × Heap)
  | [], _, _ => .fail
  | x :: r, f, args => match Nat.beq x.f f with
    | true => x.o args
    | false => findO r f args
def flatO : List Orc → FuncId → Bool
  | [], _ => false
  | x :: r, f => match Nat.beq x.f f with
    | true => x.flat
    | false => flatO r f
structure OrcH where
  f : FuncId
  o : List AV → Heap → T (AV × Heap × List Nat)
noncomputable def orcH (f : FuncId) (enc : α → List AV × Heap) (pre : α → Bool) (res : α → AV × Heap × List Nat) : OrcH :=
  ⟨f, fun args h => .opt (unenc enc (args, h)) fun a => .ifB (pre a) (.ret (res a)) .fail⟩
def findH : List OrcH → FuncId → List AV → Heap → T (AV × Heap × List Nat)
  | [], _, _, _ => .fail
  | x :: r, f, args, h => match Nat.beq x.f f with
    | true => x.o args h
    | false => findH r f args h
def hpO : List OrcH → FuncId → Bool
  | [], _ => false
  | x :: r, f => match Nat.beq x.f f with
    | true => true
    | false => hpO r f
def findL : List (Nat × (St → T (Ex × St))) → Nat → St → T (Ex × St)
  | [], _, _ => .fail
  | x :: r, n, s => match Nat.beq x.1 n with
    | true => x.2 s
    | false => findL r n s
noncomputable def lkp (enc : α → Row) (d : α) : List Row → Nat → T Row := fun rows k =>
  .opt (unenc (List.map enc) rows) fun xs => .ifB (decide (k < xs.length)) (.ret (enc (xs.getD k d))) .fail
structure Lk where
  t : Nat
  o : List Row → Nat → T Row
def LkOK (x : Lk) : Prop := ∀ rows k row, (x.o rows k).val = some row → rows[k]? = some row
theorem lkp_ok {enc : α → Row} {d : α} {t : Nat} : LkOK ⟨t, lkp enc d⟩ := by
  intro rows k row h
  simp only [lkp, T.opt_some, T.ifB_some, T.ret_some, T.fail_some, and_false, or_false, decide_eq_true_eq] at h
  obtain ⟨xs, h1, h2, h3⟩ := h
  have := unenc_some h1
  subst this
  simp [← h3, List.getD, h2]
def findK : List Lk → Nat → List Row → Nat → T Row
  | [], _, rows, k => .opt rows[k]? .ret
  | x :: r, t, rows, k => match Nat.beq x.t t with
    | true => x.o rows k
    | false => findK r t rows k
theorem findK_ok {ks : List Lk} (h : ∀ x ∈ ks, LkOK x) : ∀ t rows k row, (findK ks t rows k).val = some row → rows[k]? = some row := by
  induction ks with
  | nil =>
    intro t rows k row hr
    simp only [findK, T.opt_some, T.ret_some] at hr
    obtain ⟨r, h1, rfl⟩ := hr
    exact h1
  | cons x r ih =>
    intro t rows k row hr
    simp only [findK] at hr
    split at hr
    · exact h x (by simp) _ _ _ hr
    · exact ih (fun y hy => h y (by simp [hy])) t rows k row hr
def envH (ty : TypeId → Option TI) (glob : Nat → Option GR) (ks : List Lk) (fs : List Orc) (hs : List OrcH) (mv : List Nat) (ls : List (Nat × (St → T (Ex × St)))) : Env :=
  ⟨ty, glob, flatO fs, findO fs, findL ls, findK ks, fun k => mv.elem k, hpO hs, findH hs⟩
structure OrcHOK (P : Program) (G : Nat → Option GR) (x : OrcH) : Prop where
  spec : ∀ args hin r H mv, (x.o args hin).val = some (r, H, mv) → SpecH P G x.f args hin r H mv
  here : Here P x.f
theorem orcH_ok {f : FuncId} {enc : α → List AV × Heap} {pre : α → Bool} {res : α → AV × Heap × List Nat} (hh : Here P f)
    (h : ∀ a, pre a = true → (∀ x ∈ (enc a).1, OkA x) → (∀ k bl, mget (enc a).2 k = some bl → OkK bl) → SpecH P G f (enc a).1 (enc a).2 (res a).1 (res a).2.1 (res a).2.2) : OrcHOK P G (orcH f enc pre res) := by
  refine ⟨fun args hin r H mv hr => ?_, hh⟩
  simp only [orcH, T.opt_some] at hr
  obtain ⟨a, h1, h2⟩ := hr
  rw [T.ifB_some] at h2
  rcases h2 with ⟨h2, h3⟩ | ⟨h2, h3⟩
  · rw [T.ret_some] at h3
    have e := unenc_some h1
    have := SpecH.ok (h a h2)
    rw [h3, ← e] at this
    exact this
  · rw [T.fail_some] at h3; exact h3.elim
theorem findH_of {hs : List OrcH} {f : FuncId} {args : List AV} {hin : Heap} {p : AV × Heap × List Nat} (h : (findH hs f args hin).val = some p) : ∃ x ∈ hs, x.f = f ∧ (x.o args hin).val = some p := by
  induction hs with
  | nil => simp only [findH] at h; rw [T.fail_some] at h; exact h.elim
  | cons x r ih =>
    simp only [findH] at h
    split at h
    · rename_i hb
      exact ⟨x, by simp, beq_true.1 hb, h⟩
    · obtain ⟨y, h1, h2, h3⟩ := ih h
      exact ⟨y, by simp [h1], h2, h3⟩
structure OrcOK (P : Program) (G : Nat → Option GR) (x : Orc) : Prop where
  spec : ∀ args r H, (x.o args).val = some (r, H) → SpecP P G x.f args r H
  flat : ∀ args r H, (x.o args).val = some (r, H) → x.flat = true → frsH H = true ∧ frs2 r = true
  here : Here P x.f
theorem orc_ok {f : FuncId} {flat : Bool} {enc : α → List AV} {pre : α → Bool} {res : α → AV × Heap} (hh : Here P f)
    (h : ∀ a, pre a = true → (∀ x ∈ enc a, OkA x) → SpecP P G f (enc a) (res a).1 (res a).2) (hf : flat = true → ∀ a, frsH (res a).2 = true ∧ frs2 (res a).1 = true) : OrcOK P G (orc f flat enc pre res) := by
  have key : ∀ args r H, ((orc f flat enc pre res).o args).val = some (r, H) → ∃ a, args = enc a ∧ pre a = true ∧ res a = (r, H) := by
    intro args r H hr
    simp only [orc, T.opt_some] at hr
    obtain ⟨a, h1, h2⟩ := hr
    rw [T.ifB_some] at h2
    refine ⟨a, unenc_some h1, ?_⟩
    rcases h2 with ⟨h2, h3⟩ | ⟨h2, h3⟩
    · rw [T.ret_some] at h3
      exact ⟨h2, h3⟩
    · rw [T.fail_some] at h3; exact h3.elim
  refine ⟨fun args r H hr => ?_, fun args r H hr hfl => ?_, hh⟩
  · obtain ⟨a, rfl, h2, h3⟩ := key args r H hr
    have := SpecP.ok (h a h2)
    rw [h3] at this
    exact this
  · obtain ⟨a, rfl, h2, h3⟩ := key args r H hr
    have := hf hfl a
    rw [h3] at this
    exact this
theorem findO_of {fs : List Orc} {f : FuncId} {args : List AV} {p : AV × Heap} (h : (findO fs f args).val = some p) : ∃ x ∈ fs, x.f = f ∧ (x.o args).val = some p ∧ flatO fs f = x.flat := by
  induction fs with
  | nil => simp only [findO] at h; rw [T.fail_some] at h; exact h.elim
  | cons x r ih =>
    simp only [findO] at h
    split at h
    · rename_i hb
      exact ⟨x, by simp, beq_true.1 hb, h, by simp only [flatO, hb]⟩
    · rename_i hb
      obtain ⟨y, h1, h2, h3, h4⟩ := ih h
      exact ⟨y, by simp [h1], h2, h3, by simp only [flatO, hb]; exact h4⟩
theorem envH_ok {ty : TypeId → Option TI} {ks : List Lk} {fs : List Orc} {hs : List OrcH} {mv : List Nat} {ls : List (Nat × (St → T (Ex × St)))} (hK : ∀ x ∈ ks, LkOK x) (hT : ∀ t ti, ty t = some ti → tyOf P t = some ti)
    (hF : ∀ x ∈ fs, OrcOK P G x) (hH : ∀ x ∈ hs, OrcHOK P G x) : EnvOK P (envH ty G ks fs hs mv ls) := by
  refine ⟨⟨hT, findK_ok hK⟩, ⟨fun f args r H hr => ?_, fun f args r H hr hfl => ?_⟩, fun f args r H hr => ?_, fun f args hin r H mv hr => ?_, fun f args hin p hr => ?_⟩
  · obtain ⟨x, h1, rfl, h3, _⟩ := findO_of (fs := fs) hr
    exact (hF x h1).spec args r H h3
  · obtain ⟨x, h1, rfl, h3, h4⟩ := findO_of (fs := fs) hr
    exact (hF x h1).flat args r H h3 (by rw [← h4]; exact hfl)
  · obtain ⟨x, h1, rfl, h3, _⟩ := findO_of (fs := fs) hr
    exact (hF x h1).here
  · obtain ⟨x, h1, rfl, h3⟩ := findH_of (hs := hs) hr
    exact (hH x h1).spec args hin r H mv h3
  · obtain ⟨x, h1, rfl, h3⟩ := findH_of (hs := hs) hr
    exact (hH x h1).here
end

theorem tyTab_ok {P : Program} {L : List (Nat × TI)} (h : L.map (fun p => tyOf P p.1) = L.map (fun p => some p.2)) : ∀ t ti, mget L t = some ti → tyOf P t = some ti := by
  intro t ti ht
  have hm := mget_mem ht
  obtain ⟨i, hi⟩ := List.getElem?_of_mem hm
  have := congrArg (fun l => l[i]?) h
  simpa [hi] using this

section
variable {α : Type} {E : Env} {x : Code}
noncomputable def lpo (kt kh : List Nat) (st : α → St) (pre : α → Bool) (out : α → T (Ex × St)) : St → T (Ex × St) := fun s =>
  .opt (unenc st (less kt kh s)) fun a => .ifB (pre a && closedB (st a)) (out a) .fail
theorem lpo_ok {kt kh : List Nat} {st : α → St} {pre : α → Bool} {out : α → T (Ex × St)} (h : ∀ a, pre a = true → ∀ e s', (out a).val = some (e, s') → LoopOK E x (st a) e s') :
    ∀ s e s', (lpo kt kh st pre out s).val = some (e, s') → LoopOK E x s e s' := by
  intro s e s' hr
  simp only [lpo, T.opt_some] at hr
  obtain ⟨a, h1, h2⟩ := hr
  rw [T.ifB_some] at h2
  rcases h2 with ⟨h2, h3⟩ | ⟨h2, h3⟩
  · simp only [Bool.and_eq_true] at h2
    have := h a h2.1 e s' h3
    have e1 := unenc_some h1
    exact .weak kt kh (by rw [e1]; exact h2.2) (by rw [e1]; exact this)
  · rw [T.fail_some] at h3; exact h3.elim
def lessX (n e r : List Nat × List Nat) (p : Ex × St) : T (Ex × St) := match p.1 with
  | .normal => lessR n.1 n.2 p
  | .exit _ => lessR e.1 e.2 p
  | .ret => lessR r.1 r.2 p
theorem lessX_of {n e r : List Nat × List Nat} {t : T (Ex × St)} {ex : Ex} {s1 : St} (h : (t.bind (lessX n e r)).val = some (ex, s1)) : ∃ k : List Nat × List Nat, (t.bind (lessR k.1 k.2)).val = some (ex, s1) := by
  rw [T.bind_some] at h
  obtain ⟨⟨e0, s0⟩, h1, h2⟩ := h
  cases e0
  · exact ⟨n, T.bind_some.2 ⟨_, h1, h2⟩⟩
  · exact ⟨e, T.bind_some.2 ⟨_, h1, h2⟩⟩
  · exact ⟨r, T.bind_some.2 ⟨_, h1, h2⟩⟩
theorem LoopOK.out {n e r : List Nat × List Nat} {s s1 : St} {ex : Ex} (h : ((exec E x s).bind (lessX n e r)).val = some (ex, s1)) (hn : ex ≠ .normal) (hc : closedB s1 = true) : LoopOK E x s ex s1 := by
  obtain ⟨k, hk⟩ := lessX_of h
  exact .stop k.1 k.2 hk hn hc
theorem LoopOK.go {n e r : List Nat × List Nat} {s s1 s2 : St} {ex : Ex} (h : ((exec E x s).bind (lessX n e r)).val = some (.normal, s1)) (hc : closedB s1 = true) (hl : LoopOK E x s1 ex s2) : LoopOK E x s ex s2 := by
  obtain ⟨k, hk⟩ := lessX_of h
  exact .next k.1 k.2 hk hc hl
def runL {γ σ : Type} (step : σ → γ → Sum σ (Ex × St)) (fin : σ → Ex × St) : σ → List γ → Ex × St
  | a, [] => fin a
  | a, y :: l => match step a y with
    | .inl a' => runL step fin a' l
    | .inr o => o
theorem walk_list {γ σ : Type} {n e r : List Nat × List Nat} {xs : List γ} {st : σ → Nat → St} {step : σ → γ → Sum σ (Ex × St)} {fin : σ → Ex × St} {I : σ → Nat → Prop}
    (hfin : ∀ a, I a xs.length → ((exec E x (st a xs.length)).bind (lessX n e r)).val = some (fin a))
    (hf1 : ∀ a, I a xs.length → (fin a).1 ≠ .normal ∧ closedB (fin a).2 = true)
    (hgo : ∀ a k y, xs[k]? = some y → I a k → match step a y with
      | .inl a' => ((exec E x (st a k)).bind (lessX n e r)).val = some (.normal, st a' (k + 1)) ∧ closedB (st a' (k + 1)) = true ∧ I a' (k + 1)
      | .inr o => ((exec E x (st a k)).bind (lessX n e r)).val = some o ∧ o.1 ≠ .normal ∧ closedB o.2 = true) :
    ∀ a k, k ≤ xs.length → I a k → LoopOK E x (st a k) (runL step fin a (xs.drop k)).1 (runL step fin a (xs.drop k)).2 := by
  have main : ∀ n' a k, xs.length - k = n' → k ≤ xs.length → I a k → LoopOK E x (st a k) (runL step fin a (xs.drop k)).1 (runL step fin a (xs.drop k)).2 := by
    intro n'
    induction n' with
    | zero =>
      intro a k hn hk hI
      have : k = xs.length := by omega
      subst this
      rw [List.drop_length]
      exact .out (hfin a hI) (hf1 a hI).1 (hf1 a hI).2
    | succ m ih =>
      intro a k hn hk hI
      have hlt : k < xs.length := by omega
      have hg := hgo a k _ (List.getElem?_eq_getElem hlt) hI
      rw [List.drop_eq_getElem_cons hlt]
      simp only [runL]
      split at hg
      · rename_i a' hs
        exact .go hg.1 hg.2.1 (ih a' (k + 1) (by omega) hlt hg.2.2)
      · rename_i o hs
        exact .out hg.1 hg.2.1 hg.2.2
  exact fun a k => main _ a k rfl
theorem runL_all {γ : Type} {p : γ → Bool} {o : Ex × St} {fin : Unit → Ex × St} : ∀ {l : List γ}, runL (fun _ y => match p y with | true => .inl () | false => .inr o) fin () l = match l.all p with | true => fin () | false => o
  | [] => rfl
  | y :: l => by
    simp only [runL, List.all_cons]
    cases hp : p y
    · simp
    · simp only [Bool.true_and]; exact runL_all
theorem runL_fold {γ σ : Type} {f : σ → γ → σ} {fin : σ → Ex × St} : ∀ {l : List γ} {a : σ}, runL (fun a y => .inl (f a y)) fin a l = fin (l.foldl f a)
  | [], _ => rfl
  | y :: l, a => by simp only [runL, List.foldl_cons]; exact runL_fold
def ffI {γ : Type} (g : γ → Int) : List γ → Int
  | [] => 0
  | y :: l => if g y = 0 then ffI g l else g y
theorem runL_code {γ : Type} {g : γ → Int} {o : Int → Ex × St} {fin : Unit → Ex × St} : ∀ {l : List γ}, runL (fun _ y => if g y = 0 then .inl () else .inr (o (g y))) fin () l = if ffI g l = 0 then fin () else o (ffI g l)
  | [] => rfl
  | y :: l => by
    simp only [runL, ffI]
    by_cases h : g y = 0
    · simp only [h, if_true]; exact runL_code
    · simp only [h, if_false]
theorem loop_all {γ : Type} {n e r : List Nat × List Nat} {xs : List γ} {st : Nat → St} {p : γ → Bool} {o fin : Ex × St}
    (hfin : ((exec E x (st xs.length)).bind (lessX n e r)).val = some fin) (hf1 : fin.1 ≠ .normal ∧ closedB fin.2 = true) (ho : o.1 ≠ .normal ∧ closedB o.2 = true) (hs : ∀ k, closedB (st k) = true)
    (hgo : ∀ k y, xs[k]? = some y → ((exec E x (st k)).bind (lessX n e r)).val = match p y with | true => some (.normal, st (k + 1)) | false => some o) :
    ∀ k, k ≤ xs.length → ∀ ex s', (T.ifB ((xs.drop k).all p) (.ret fin) (.ret o)).val = some (ex, s') → LoopOK E x (st k) ex s' := by
  intro k hk ex s' h
  have := walk_list (E := E) (x := x) (xs := xs) (n := n) (e := e) (r := r) (st := fun (_ : Unit) k => st k) (step := fun _ y => match p y with | true => .inl () | false => .inr o) (fin := fun _ => fin) (I := fun _ _ => True)
    (fun _ _ => hfin) (fun _ _ => hf1) (fun _ k y hy _ => by
      have := hgo k y hy
      cases hp : p y
      · simp only [hp] at this ⊢; exact ⟨this, ho⟩
      · simp only [hp] at this ⊢; exact ⟨this, hs _, trivial⟩) () k hk trivial
  rw [runL_all] at this
  cases hb : (xs.drop k).all p <;> simp only [hb, T.val, Option.some.injEq] at h this <;> subst h <;> exact this
theorem loop_code {γ : Type} {n e r : List Nat × List Nat} {xs : List γ} {st : Nat → St} {g : γ → Int} {o : Int → Ex × St} {fin : Ex × St}
    (hfin : ((exec E x (st xs.length)).bind (lessX n e r)).val = some fin) (hf1 : fin.1 ≠ .normal ∧ closedB fin.2 = true) (ho : ∀ c, (o c).1 ≠ .normal ∧ closedB (o c).2 = true) (hs : ∀ k, closedB (st k) = true)
    (hgo : ∀ k y, xs[k]? = some y → ((exec E x (st k)).bind (lessX n e r)).val = if g y = 0 then some (.normal, st (k + 1)) else some (o (g y))) :
    ∀ k, k ≤ xs.length → ∀ ex s', (T.ifB (decide (ffI g (xs.drop k) = 0)) (.ret fin) (.ret (o (ffI g (xs.drop k))))).val = some (ex, s') → LoopOK E x (st k) ex s' := by
  intro k hk ex s' h
  have := walk_list (E := E) (x := x) (xs := xs) (n := n) (e := e) (r := r) (st := fun (_ : Unit) k => st k) (step := fun _ y => if g y = 0 then .inl () else .inr (o (g y))) (fin := fun _ => fin) (I := fun _ _ => True)
    (fun _ _ => hfin) (fun _ _ => hf1) (fun _ k y hy _ => by
      have := hgo k y hy
      by_cases hp : g y = 0
      · simp only [hp, if_true] at this ⊢; exact ⟨this, hs _, trivial⟩
      · simp only [hp, if_false] at this ⊢; exact ⟨this, ho _⟩) () k hk trivial
  rw [runL_code] at this
  by_cases hb : ffI g (xs.drop k) = 0
  · simp only [hb, decide_true, T.val, Option.some.injEq, if_true] at h this; subst h; exact this
  · simp only [hb, decide_false, T.val, Option.some.injEq, if_false] at h this; rw [h] at this; exact this
theorem loop_gen {σ : Type} {n e r : List Nat × List Nat} {st : σ → St} {out : σ → T (Ex × St)} {I : σ → Prop} (μ : σ → Nat)
    (h : ∀ a, I a → (∃ o, ((exec E x (st a)).bind (lessX n e r)).val = some o ∧ (out a).val = some o ∧ o.1 ≠ .normal ∧ closedB o.2 = true) ∨
      (∃ a', ((exec E x (st a)).bind (lessX n e r)).val = some (.normal, st a') ∧ closedB (st a') = true ∧ I a' ∧ μ a' < μ a ∧ (out a').val = (out a).val)) :
    ∀ a, I a → ∀ ex s', (out a).val = some (ex, s') → LoopOK E x (st a) ex s' := by
  have main : ∀ m a, μ a ≤ m → I a → ∀ ex s', (out a).val = some (ex, s') → LoopOK E x (st a) ex s' := by
    intro m
    induction m with
    | zero =>
      intro a hm hI ex s' ho
      rcases h a hI with ⟨o, h1, h2, h3, h4⟩ | ⟨a', h1, h2, h3, h4, h5⟩
      · rw [ho] at h2; cases h2; exact .out h1 h3 h4
      · omega
    | succ m ih =>
      intro a hm hI ex s' ho
      rcases h a hI with ⟨o, h1, h2, h3, h4⟩ | ⟨a', h1, h2, h3, h4, h5⟩
      · rw [ho] at h2; cases h2; exact .out h1 h3 h4
      · exact .go h1 h2 (ih a' (by omega) h3 ex s' (h5.trans ho))
  exact fun a => main _ a (Nat.le_refl _)
theorem loop_fold {γ σ : Type} {n e r : List Nat × List Nat} {xs : List γ} {st : σ → Nat → St} {f : σ → γ → σ} {fin : σ → Ex × St} {I : σ → Nat → Prop}
    (hfin : ∀ a, I a xs.length → ((exec E x (st a xs.length)).bind (lessX n e r)).val = some (fin a)) (hf1 : ∀ a, (fin a).1 ≠ .normal ∧ closedB (fin a).2 = true) (hs : ∀ a k, closedB (st a k) = true)
    (hgo : ∀ a k y, xs[k]? = some y → I a k → ((exec E x (st a k)).bind (lessX n e r)).val = some (.normal, st (f a y) (k + 1)) ∧ I (f a y) (k + 1)) :
    ∀ a k, k ≤ xs.length → I a k → ∀ ex s', (T.ret (fin ((xs.drop k).foldl f a))).val = some (ex, s') → LoopOK E x (st a k) ex s' := by
  intro a k hk hI ex s' h
  have := walk_list (E := E) (x := x) (xs := xs) (n := n) (e := e) (r := r) (st := st) (step := fun a y => .inl (f a y)) (fin := fin) (I := I)
    hfin (fun a _ => hf1 a) (fun a k y hy hI => by
      have := hgo a k y hy hI
      exact ⟨this.1, hs _ _, this.2⟩) a k hk hI
  rw [runL_fold] at this
  rw [T.ret_some] at h
  rw [h] at this
  exact this
def scan {γ σ : Type} (step : σ → γ → Option σ) : σ → Nat → List γ → σ × Nat
  | a, k, [] => (a, k)
  | a, k, y :: l => match step a y with
    | some a' => scan step a' (k + 1) l
    | none => (a, k)
theorem scan_le {γ σ : Type} {step : σ → γ → Option σ} : ∀ {l : List γ} {a : σ} {k : Nat}, k ≤ (scan step a k l).2 ∧ (scan step a k l).2 ≤ k + l.length
  | [], a, k => ⟨Nat.le_refl _, Nat.le_refl _⟩
  | y :: l, a, k => by
    simp only [scan]
    split
    · rename_i a' _
      have := scan_le (step := step) (l := l) (a := a') (k := k + 1)
      simp only [List.length_cons]; omega
    · simp
theorem loop_scan {γ σ : Type} {n e r : List Nat × List Nat} {xs : List γ} {st : σ → Nat → St} {step : σ → γ → Option σ} {fin : σ × Nat → Ex × St} {I : σ → Nat → Prop}
    (hfin : ∀ a, I a xs.length → ((exec E x (st a xs.length)).bind (lessX n e r)).val = some (fin (a, xs.length))) (hf1 : ∀ a, (fin a).1 ≠ .normal ∧ closedB (fin a).2 = true) (hs : ∀ a k, closedB (st a k) = true)
    (hgo : ∀ a k y, xs[k]? = some y → I a k → match step a y with
      | some a' => ((exec E x (st a k)).bind (lessX n e r)).val = some (.normal, st a' (k + 1)) ∧ I a' (k + 1)
      | none => ((exec E x (st a k)).bind (lessX n e r)).val = some (fin (a, k))) :
    ∀ a k, k ≤ xs.length → I a k → ∀ ex s', (T.ret (fin (scan step a k (xs.drop k)))).val = some (ex, s') → LoopOK E x (st a k) ex s' := by
  have main : ∀ m a k, xs.length - k = m → k ≤ xs.length → I a k → LoopOK E x (st a k) (fin (scan step a k (xs.drop k))).1 (fin (scan step a k (xs.drop k))).2 := by
    intro m
    induction m with
    | zero =>
      intro a k hm hk hI
      have : k = xs.length := by omega
      subst this
      rw [List.drop_length]
      exact .out (hfin a hI) (hf1 _).1 (hf1 _).2
    | succ m ih =>
      intro a k hm hk hI
      have hlt : k < xs.length := by omega
      have hg := hgo a k _ (List.getElem?_eq_getElem hlt) hI
      rw [List.drop_eq_getElem_cons hlt]
      simp only [scan]
      split at hg
      · rename_i a' hs'
        exact .go hg.1 (hs _ _) (ih a' (k + 1) (by omega) hlt hg.2)
      · exact .out hg (hf1 _).1 (hf1 _).2
  intro a k hk hI ex s' h
  have := main _ a k rfl hk hI
  rw [T.ret_some] at h
  rw [h] at this
  exact this
theorem no_loops {fn : Func} (h : Func.loops fn = []) : ∀ x ∈ Func.loops fn, ∀ s e s', (E.lp (lid x) s).val = some (e, s') → LoopOK E x s e s' := by
  rw [h]; intro x hx; cases hx
theorem one_loop {fn : Func} {x0 : Code} (h : Func.loops fn = [x0]) (h0 : ∀ s e s', (E.lp (lid x0) s).val = some (e, s') → LoopOK E x0 s e s') :
    ∀ x ∈ Func.loops fn, ∀ s e s', (E.lp (lid x) s).val = some (e, s') → LoopOK E x s e s' := by
  rw [h]; intro x hx
  rcases List.mem_cons.1 hx with rfl | hx
  · exact h0
  · cases hx
theorem two_loops {fn : Func} {x0 x1 : Code} (h : Func.loops fn = [x0, x1]) (h0 : ∀ s e s', (E.lp (lid x0) s).val = some (e, s') → LoopOK E x0 s e s') (h1 : ∀ s e s', (E.lp (lid x1) s).val = some (e, s') → LoopOK E x1 s e s') :
    ∀ x ∈ Func.loops fn, ∀ s e s', (E.lp (lid x) s).val = some (e, s') → LoopOK E x s e s' := by
  rw [h]; intro x hx
  rcases List.mem_cons.1 hx with rfl | hx
  · exact h0
  rcases List.mem_cons.1 hx with rfl | hx
  · exact h1
  · cases hx
end

theorem mkH_ok {α : Type} {P : Program} {E : Env} {f : FuncId} {mv : List Nat} {enc : α → List AV × Heap} {pre : α → Bool} {res : α → AV × Heap × List Nat} (fn : Func) (hf : P.funcs[f]? = some fn)
    (hn : ((fn.name == "runtime.NumGoroutine") || fn.body.isNone) = false) (ok : EnvOK P E) (hm : P.follows .mixedOrders = true)
    (hlp : ∀ x ∈ Func.loops fn, ∀ s e s', (E.lp (lid x) s).val = some (e, s') → LoopOK E x s e s')
    (h : ∀ a, pre a = true → (∀ x ∈ (enc a).1, OkA x) → (∀ k bl, mget (enc a).2 k = some bl → OkK bl) → (runH E mv fn (enc a).1 (enc a).2).val = some (res a)) : OrcHOK P E.glob (orcH f enc pre res) := by
  simp only [Bool.or_eq_false_iff] at hn
  exact orcH_ok ⟨fn, hf, hn.1, hn.2⟩ (fun a h1 h2 h3 => runH_sound ok hm hf hlp (mv := mv) (h a h1 h2 h3))

theorem mk_ok {α : Type} {P : Program} {E : Env} {f : FuncId} {flat keep : Bool} {enc : α → List AV} {pre : α → Bool} {res : α → AV × Heap} (fn : Func) (hf : P.funcs[f]? = some fn)
    (hn : ((fn.name == "runtime.NumGoroutine") || fn.body.isNone) = false) (ok : EnvOK P E) (hm : P.follows .mixedOrders = true)
    (hlp : ∀ x ∈ Func.loops fn, ∀ s e s', (E.lp (lid x) s).val = some (e, s') → LoopOK E x s e s') (hfl : flat = true → ∀ a, frsH (res a).2 = true ∧ frs2 (res a).1 = true)
    (h : ∀ a, pre a = true → (∀ x ∈ enc a, OkA x) → (runF E keep fn (enc a)).val = some (res a)) : OrcOK P E.glob (orc f flat enc pre res) := by
  simp only [Bool.or_eq_false_iff] at hn
  exact orc_ok ⟨fn, hf, hn.1, hn.2⟩ (fun a h1 h2 => runF_sound ok hm hf hlp (h a h1 h2)) hfl

end Go.Proofs.YtajmdlpanlbnjaaGreatDoor.M

namespace Go.Proofs.YtajmdlpanlbnjaaGreatDoor.M
open Go Go.RowKit

def tyL : List (Nat × TI) :=
  [(2, .mk false 1 [] [.v (.int .i64 0)] 0 0 0 [] (some .i64) 3 []),
   (3, .mk false 1 [] [.v (.int .i64 0)] 0 0 0 [] (some .i64) 3 []),
   (4, .mk false 1 [] [.v (.bool false)] 0 0 0 [] none 1 []),
   (5, .mk false 1 [] [.v (.int .u8 0)] 0 0 0 [] (some .u8) 3 []),
   (6, .mk false 1 [] [.v (.int .u8 0)] 0 0 0 [] (some .u8) 3 []),
   (7, .mk true 4 [(0, false, 1), (1, false, 1), (2, false, 1), (3, false, 1)] [.v (.int .i64 0), .v (.int .i64 0), .v (.bool false), .v (.int .u8 0)] 0 0 0 [] none 5 [0, 0, 2, 0]),
   (8, .mk true 4 [(0, false, 1), (1, false, 1), (2, false, 1), (3, false, 1)] [.v (.int .i64 0), .v (.int .i64 0), .v (.bool false), .v (.int .u8 0)] 0 0 0 [] none 5 [0, 0, 2, 0]),
   (9, .mk false 1 [] [.v (.string ⟨#[]⟩)] 0 0 0 [] none 2 []),
   (10, .mk false 1 [] [.v (.string ⟨#[]⟩)] 0 0 0 [] none 2 []),
   (11, .mk false 1 [] [.v (.string ⟨#[]⟩)] 0 0 0 [] none 2 []),
   (12, .mk false 1 [] [.v (.int .u64 0)] 0 0 0 [] (some .u64) 3 []),
   (13, .mk true 2 [(0, false, 1), (1, false, 1)] [.v (.string ⟨#[]⟩), .v (.int .u64 0)] 0 0 0 [] none 5 []),
   (14, .mk true 2 [(0, false, 1), (1, false, 1)] [.v (.string ⟨#[]⟩), .v (.int .u64 0)] 0 0 0 [] none 5 []),
   (15, .mk false 1 [] [.v (.pointer none)] 0 0 0 [] none 0 []),
   (16, .mk false 1 [] [.v (.pointer none)] 0 0 0 [] none 0 []),
   (17, .mk false 1 [] [.v (.pointer none)] 0 0 0 [] none 0 []),
   (18, .mk true 1 [(0, false, 1)] [.v (.pointer none)] 0 0 0 [] none 5 []),
   (19, .mk true 1 [(0, false, 1)] [.v (.pointer none)] 0 0 0 [] none 5 []),
   (20, .mk false 1 [] [.v .nilIface] 0 0 0 [] none 0 []),
   (21, .mk false 1 [] [.v (.int .i32 0)] 0 0 0 [] (some .i32) 3 []),
   (22, .mk false 1 [] [.e0] 50 7 88 [.v (.string ⟨#[]⟩), .v (.int .i64 0), .v (.bool false), .v (.int .i64 0), .v (.string ⟨#[]⟩), .v (.bool false), .e0] none 4 []),
   (23, .mk true 5 [(0, false, 1), (1, false, 1), (2, false, 1), (3, false, 1), (4, false, 1)] [.v (.int .i64 0), .v (.int .i64 0), .v (.int .i64 0), .e0, .v (.bool false)] 0 0 0 [] none 5 []),
   (24, .mk true 5 [(0, false, 1), (1, false, 1), (2, false, 1), (3, false, 1), (4, false, 1)] [.v (.int .i64 0), .v (.int .i64 0), .v (.int .i64 0), .e0, .v (.bool false)] 0 0 0 [] none 5 []),
   (25, .mk false 1 [] [.v (.int .i64 0)] 0 0 0 [] (some .i64) 3 []),
   (31, .mk false 1 [] [.e0] 3 1 8 [.v (.int .i64 0)] none 4 []),
   (37, .mk true 6 [(0, false, 1), (1, true, 5)] [.v (.int .i64 0), .v (.int .i64 0), .v (.int .i64 0), .v (.int .i64 0), .e0, .v (.bool false)] 0 0 0 [] none 5 []),
   (38, .mk true 6 [(0, false, 1), (1, true, 5)] [.v (.int .i64 0), .v (.int .i64 0), .v (.int .i64 0), .v (.int .i64 0), .e0, .v (.bool false)] 0 0 0 [] none 5 []),
   (46, .mk false 1 [] [.e0] 52 9 104 [.v (.int .i64 0), .v (.string ⟨#[]⟩), .v (.int .i64 0), .v (.bool false), .v (.int .i64 0), .v (.string ⟨#[]⟩), .v (.bool false), .e0, .v (.int .i64 0)] none 4 []),
   (48, .mk false 1 [] [.e0] 9 1 16 [.v (.string ⟨#[]⟩)] none 4 []),
   (49, .mk true 7 [(0, false, 1), (1, false, 1), (2, false, 1), (3, false, 1), (4, false, 1), (5, false, 1), (6, false, 1)] [.v (.string ⟨#[]⟩), .v (.int .i64 0), .v (.bool false), .v (.int .i64 0), .v (.string ⟨#[]⟩), .v (.bool false), .e0] 0 0 0 [] none 5 []),
   (50, .mk true 7 [(0, false, 1), (1, false, 1), (2, false, 1), (3, false, 1), (4, false, 1), (5, false, 1), (6, false, 1)] [.v (.string ⟨#[]⟩), .v (.int .i64 0), .v (.bool false), .v (.int .i64 0), .v (.string ⟨#[]⟩), .v (.bool false), .e0] 0 0 0 [] none 5 []),
   (51, .mk true 9 [(0, false, 1), (1, true, 7), (8, false, 1)] [.v (.int .i64 0), .v (.string ⟨#[]⟩), .v (.int .i64 0), .v (.bool false), .v (.int .i64 0), .v (.string ⟨#[]⟩), .v (.bool false), .e0, .v (.int .i64 0)] 0 0 0 [] none 5 []),
   (52, .mk true 9 [(0, false, 1), (1, true, 7), (8, false, 1)] [.v (.int .i64 0), .v (.string ⟨#[]⟩), .v (.int .i64 0), .v (.bool false), .v (.int .i64 0), .v (.string ⟨#[]⟩), .v (.bool false), .e0, .v (.int .i64 0)] 0 0 0 [] none 5 []),
   (71, .mk false 1 [] [.v (.pointer none)] 0 0 0 [] none 0 []),
   (72, .mk true 2 [(0, false, 1), (1, false, 1)] [.v (.string ⟨#[]⟩), .v (.int .i64 0)] 0 0 0 [] none 5 [1, 0]),
   (73, .mk true 2 [(0, false, 1), (1, false, 1)] [.v (.string ⟨#[]⟩), .v (.int .i64 0)] 0 0 0 [] none 5 [1, 0]),
   (78, .mk false 1 [] [.v (.pointer none)] 0 0 0 [] none 0 []),
   (79, .mk false 1 [] [.e0] 5 1 1 [.v (.int .u8 0)] none 4 []),
   (80, .mk true 2 [(0, false, 1), (1, false, 1)] [.v (.pointer none), .e0] 0 0 0 [] none 5 []),
   (81, .mk true 2 [(0, false, 1), (1, false, 1)] [.v (.pointer none), .e0] 0 0 0 [] none 5 []),
   (82, .mk false 1 [] [.v .nilIface] 0 0 0 [] none 0 []),
   (83, .mk false 1 [] [.v .nilIface] 0 0 0 [] none 0 []),
   (97, .mk false 1 [] [.e0] 4 1 1 [.v (.bool false)] none 4 []),
   (99, .mk false 1 [] [.e0] 25 1 8 [.v (.int .i64 0)] none 4 []),
   (104, .mk false 1 [] [.v (.pointer none)] 0 0 0 [] none 0 []),
   (105, .mk true 2 [(0, false, 1), (1, false, 1)] [.v (.string ⟨#[]⟩), .v (.pointer none)] 0 0 0 [] none 5 []),
   (106, .mk false 1 [] [.e0] 105 2 24 [.v (.string ⟨#[]⟩), .v (.pointer none)] none 4 []),
   (116, .mk false 1 [] [.v (.pointer none)] 0 0 0 [] none 0 []),
   (125, .mk false 1 [] [.v (.pointer none)] 0 0 0 [] none 0 []),
   (126, .mk false 1 [] [.v (.pointer none)] 0 0 0 [] none 0 []),
   (128, .mk false 1 [] [.v (.int .u64 0)] 0 0 0 [] (some .u64) 3 []),
   (135, .mk true 3 [(0, false, 1), (1, false, 1), (2, false, 1)] [.v (.bool false), .e0, .e0] 0 0 0 [] none 5 []),
   (136, .mk true 3 [(0, false, 1), (1, false, 1), (2, false, 1)] [.v (.bool false), .e0, .e0] 0 0 0 [] none 5 []),
   (139, .mk true 24 [] [.v (.int .u8 0), .v (.int .u8 0), .v (.int .u8 0), .v (.int .u8 0), .v (.int .u8 0), .v (.int .u8 0), .v (.int .u8 0), .v (.int .u8 0), .v (.int .u8 0), .v (.int .u8 0), .v (.int .u8 0), .v (.int .u8 0), .v (.int .u8 0), .v (.int .u8 0), .v (.int .u8 0), .v (.int .u8 0), .v (.int .u8 0), .v (.int .u8 0), .v (.int .u8 0), .v (.int .u8 0), .v (.int .u8 0), .v (.int .u8 0), .v (.int .u8 0), .v (.int .u8 0)] 0 0 0 [] none 0 []),
   (145, .mk false 1 [] [.v (.int .u64 0)] 0 0 0 [] (some .u64) 3 []),
   (154, .mk true 20 [] [.v (.int .u64 0), .v (.int .u64 0), .v (.int .u64 0), .v (.int .u64 0), .v (.int .u64 0), .v (.int .u64 0), .v (.int .u64 0), .v (.int .u64 0), .v (.int .u64 0), .v (.int .u64 0), .v (.int .u64 0), .v (.int .u64 0), .v (.int .u64 0), .v (.int .u64 0), .v (.int .u64 0), .v (.int .u64 0), .v (.int .u64 0), .v (.int .u64 0), .v (.int .u64 0), .v (.int .u64 0)] 0 0 0 [] none 0 []),
   (155, .mk false 1 [] [.v (.int .u32 0)] 0 0 0 [] (some .u32) 3 []),
   (156, .mk true 65 [] [.v (.int .u8 0), .v (.int .u8 0), .v (.int .u8 0), .v (.int .u8 0), .v (.int .u8 0), .v (.int .u8 0), .v (.int .u8 0), .v (.int .u8 0), .v (.int .u8 0), .v (.int .u8 0), .v (.int .u8 0), .v (.int .u8 0), .v (.int .u8 0), .v (.int .u8 0), .v (.int .u8 0), .v (.int .u8 0), .v (.int .u8 0), .v (.int .u8 0), .v (.int .u8 0), .v (.int .u8 0), .v (.int .u8 0), .v (.int .u8 0), .v (.int .u8 0), .v (.int .u8 0), .v (.int .u8 0), .v (.int .u8 0), .v (.int .u8 0), .v (.int .u8 0), .v (.int .u8 0), .v (.int .u8 0), .v (.int .u8 0), .v (.int .u8 0), .v (.int .u8 0), .v (.int .u8 0), .v (.int .u8 0), .v (.int .u8 0), .v (.int .u8 0), .v (.int .u8 0), .v (.int .u8 0), .v (.int .u8 0), .v (.int .u8 0), .v (.int .u8 0), .v (.int .u8 0), .v (.int .u8 0), .v (.int .u8 0), .v (.int .u8 0), .v (.int .u8 0), .v (.int .u8 0), .v (.int .u8 0), .v (.int .u8 0), .v (.int .u8 0), .v (.int .u8 0), .v (.int .u8 0), .v (.int .u8 0), .v (.int .u8 0), .v (.int .u8 0), .v (.int .u8 0), .v (.int .u8 0), .v (.int .u8 0), .v (.int .u8 0), .v (.int .u8 0), .v (.int .u8 0), .v (.int .u8 0), .v (.int .u8 0), .v (.int .u8 0)] 0 0 0 [] none 0 []),
   (174, .mk true 32 [] [.v (.int .u8 0), .v (.int .u8 0), .v (.int .u8 0), .v (.int .u8 0), .v (.int .u8 0), .v (.int .u8 0), .v (.int .u8 0), .v (.int .u8 0), .v (.int .u8 0), .v (.int .u8 0), .v (.int .u8 0), .v (.int .u8 0), .v (.int .u8 0), .v (.int .u8 0), .v (.int .u8 0), .v (.int .u8 0), .v (.int .u8 0), .v (.int .u8 0), .v (.int .u8 0), .v (.int .u8 0), .v (.int .u8 0), .v (.int .u8 0), .v (.int .u8 0), .v (.int .u8 0), .v (.int .u8 0), .v (.int .u8 0), .v (.int .u8 0), .v (.int .u8 0), .v (.int .u8 0), .v (.int .u8 0), .v (.int .u8 0), .v (.int .u8 0)] 0 0 0 [] none 0 []),
   (175, .mk true 64 [] [.v (.int .u8 0), .v (.int .u8 0), .v (.int .u8 0), .v (.int .u8 0), .v (.int .u8 0), .v (.int .u8 0), .v (.int .u8 0), .v (.int .u8 0), .v (.int .u8 0), .v (.int .u8 0), .v (.int .u8 0), .v (.int .u8 0), .v (.int .u8 0), .v (.int .u8 0), .v (.int .u8 0), .v (.int .u8 0), .v (.int .u8 0), .v (.int .u8 0), .v (.int .u8 0), .v (.int .u8 0), .v (.int .u8 0), .v (.int .u8 0), .v (.int .u8 0), .v (.int .u8 0), .v (.int .u8 0), .v (.int .u8 0), .v (.int .u8 0), .v (.int .u8 0), .v (.int .u8 0), .v (.int .u8 0), .v (.int .u8 0), .v (.int .u8 0), .v (.int .u8 0), .v (.int .u8 0), .v (.int .u8 0), .v (.int .u8 0), .v (.int .u8 0), .v (.int .u8 0), .v (.int .u8 0), .v (.int .u8 0), .v (.int .u8 0), .v (.int .u8 0), .v (.int .u8 0), .v (.int .u8 0), .v (.int .u8 0), .v (.int .u8 0), .v (.int .u8 0), .v (.int .u8 0), .v (.int .u8 0), .v (.int .u8 0), .v (.int .u8 0), .v (.int .u8 0), .v (.int .u8 0), .v (.int .u8 0), .v (.int .u8 0), .v (.int .u8 0), .v (.int .u8 0), .v (.int .u8 0), .v (.int .u8 0), .v (.int .u8 0), .v (.int .u8 0), .v (.int .u8 0), .v (.int .u8 0), .v (.int .u8 0)] 0 0 0 [] none 0 []),
   (177, .mk false 1 [] [.v (.int .i64 0)] 0 0 0 [] (some .i64) 3 []),
   (180, .mk false 1 [] [.v (.pointer none)] 0 0 0 [] none 0 []),
   (186, .mk true 3 [(0, false, 1), (1, false, 1), (2, false, 1)] [.v (.string ⟨#[]⟩), .v (.string ⟨#[]⟩), .v .nilIface] 0 0 0 [] none 5 []),
   (187, .mk true 3 [(0, false, 1), (1, false, 1), (2, false, 1)] [.v (.string ⟨#[]⟩), .v (.string ⟨#[]⟩), .v .nilIface] 0 0 0 [] none 5 []),
   (190, .mk false 1 [] [.v (.pointer none)] 0 0 0 [] none 0 []),
   (191, .mk true 1 [(0, false, 1)] [.v (.string ⟨#[]⟩)] 0 0 0 [] none 5 [1]),
   (192, .mk true 1 [(0, false, 1)] [.v (.string ⟨#[]⟩)] 0 0 0 [] none 5 [1]),
   (193, .mk true 4 [(0, false, 1), (1, false, 1), (2, false, 1), (3, false, 1)] [.v (.pointer none), .v (.pointer none), .v (.pointer none), .v (.string ⟨#[]⟩)] 0 0 0 [] none 5 []),
   (194, .mk true 4 [(0, false, 1), (1, false, 1), (2, false, 1), (3, false, 1)] [.v (.pointer none), .v (.pointer none), .v (.pointer none), .v (.string ⟨#[]⟩)] 0 0 0 [] none 5 []),
   (195, .mk true 0 [] [] 0 0 0 [] none 0 []),
   (198, .mk false 1 [] [.v (.int .u8 0)] 0 0 0 [] (some .u8) 3 []),
   (199, .mk false 1 [] [.v (.int .u8 0)] 0 0 0 [] (some .u8) 3 []),
   (201, .mk false 1 [] [.v (.int .i32 0)] 0 0 0 [] (some .i32) 3 []),
   (202, .mk false 1 [] [.v (.int .i32 0)] 0 0 0 [] (some .i32) 3 []),
   (203, .mk true 11 [(0, false, 1), (1, false, 1), (2, false, 1), (3, false, 1), (4, false, 1), (5, false, 1), (6, false, 1), (7, false, 1), (8, false, 1), (9, false, 1), (10, false, 1)] [.v (.int .u64 0), .v (.int .u64 0), .v (.int .u32 0), .v (.int .u8 0), .v (.int .u8 0), .v (.int .u8 0), .v (.int .u8 0), .v .nilFunc, .v (.pointer none), .v (.int .i32 0), .v (.int .i32 0)] 0 0 0 [] none 5 []),
   (204, .mk true 11 [(0, false, 1), (1, false, 1), (2, false, 1), (3, false, 1), (4, false, 1), (5, false, 1), (6, false, 1), (7, false, 1), (8, false, 1), (9, false, 1), (10, false, 1)] [.v (.int .u64 0), .v (.int .u64 0), .v (.int .u32 0), .v (.int .u8 0), .v (.int .u8 0), .v (.int .u8 0), .v (.int .u8 0), .v .nilFunc, .v (.pointer none), .v (.int .i32 0), .v (.int .i32 0)] 0 0 0 [] none 5 [])]

theorem tyL_ok : tyL.map (fun p => tyOf Tryz.prog p.1) = tyL.map (fun p => some p.2) := by kernel_rfl

def ty (t : TypeId) : Option TI := mget tyL t

theorem ty_ok : ∀ t ti, ty t = some ti → tyOf Tryz.prog t = some ti := tyTab_ok tyL_ok

end Go.Proofs.YtajmdlpanlbnjaaGreatDoor.M

namespace Go.Proofs.YtajmdlpanlbnjaaGreatDoor
open Go Go.RowKit
set_option linter.unusedVariables false
set_option linter.unusedSimpArgs false
set_option maxHeartbeats 1000000

structure Ent where
  uri : ByteArray
  milli : Int
  brk : Bool
  date : Int
  key : ByteArray
  gap : Bool
  extra : List ByteArray

structure Lst where
  target : Int
  first : Int
  breaks : Int
  entries : List Ent
  ended : Bool

structure Itm where
  number : Int
  entry : Ent

structure Cli where
  begun : Bool
  next : Int
  last : Lst
  queue : List Itm
  lost : Int

structure Trn where
  kind : Int
  entry : Ent
  keep : Int

instance : Inhabited Ent := ⟨⟨⟨#[]⟩, 0, false, 0, ⟨#[]⟩, false, []⟩⟩

instance : Inhabited Lst := ⟨⟨0, 0, 0, [], false⟩⟩

instance : Inhabited Itm := ⟨⟨0, default⟩⟩

instance : Inhabited Trn := ⟨⟨0, default, 0⟩⟩

namespace M

abbrev vI (n : Int) : AV := .v (.int .i64 n)

abbrev vU (n : Int) : AV := .v (.int .u8 n)

abbrev vB (b : Bool) : AV := .v (.bool b)

abbrev vS (s : ByteArray) : AV := .v (.string s)

noncomputable def noG : Nat → Option GR := fun g => match Nat.beq g 3 with
  | true => some ⟨[], fun cs => ∃ m, cs[0]? = some (Value.int .i64 m)⟩
  | false => match Nat.beq g 2 with
    | true => some ⟨[], fun cs => cs = (Lib.pow10Tab.map fun z => Value.int .u64 z).toArray⟩
    | false => none

theorem wrap_id {n : Int} (h1 : -9223372036854775808 ≤ n) (h2 : n ≤ 9223372036854775807) : IntKind.i64.wrap n = n := by
  simp only [IntKind.wrap, IntKind.signed, IntKind.bits]
  simp
  omega

theorem ble_t {a b : Nat} (h : a ≤ b) : Nat.ble a b = true := by rw [Nat.ble_eq]; exact h

theorem mixed : Tryz.prog.follows .mixedOrders = true := by kernel_rfl

theorem getD_at {α : Type} {xs : List α} {k : Nat} {y d : α} (h : xs[k]? = some y) : xs.getD k d = y := by simp [List.getD, h]

theorem lt_at {α : Type} {xs : List α} {k : Nat} {y : α} (h : xs[k]? = some y) : k < xs.length := (List.getElem?_eq_some_iff.1 h).1

theorem next_at {k n : Nat} (h : k < n) (hn : n ≤ 9223372036854775807) : IntKind.i64.wrap ((k : Int) + 1) = ((k + 1 : Nat) : Int) := by
  rw [wrap_id (by omega) (by omega)]; rfl

theorem tdiv_nn {a b : Int} (h : 0 ≤ a) : a.tdiv b = a / b := Int.tdiv_eq_ediv_of_nonneg h

theorem cast_lt {k n : Nat} (h : k < n) : decide ((k : Int) < (n : Int)) = true := decide_eq_true (by omega)

def eStr (s : ByteArray) : Row := [vS s]

def eI (n : Int) : Row := [vI n]

def eB (b : Bool) : Row := [vB b]

def eEnt (e : Ent) : Row := [vS e.uri, vI e.milli, vB e.brk, vI e.date, vS e.key, vB e.gap, .sl (e.extra.map eStr)]

def eLst (l : Lst) : Row := [vI l.target, vI l.first, vI l.breaks, .sl (l.entries.map eEnt), vB l.ended]

def eItm (x : Itm) : Row := [vI x.number, vS x.entry.uri, vI x.entry.milli, vB x.entry.brk, vI x.entry.date, vS x.entry.key, vB x.entry.gap, .sl (x.entry.extra.map eStr)]

def eTrn (x : Trn) : Row := [vI x.kind, vS x.entry.uri, vI x.entry.milli, vB x.entry.brk, vI x.entry.date, vS x.entry.key, vB x.entry.gap, .sl (x.entry.extra.map eStr), vI x.keep]

theorem eStr_inj (a b : ByteArray) (h : eStr a = eStr b) : a = b := by
  simp only [eStr] at h
  grind

theorem eI_inj (a b : Int) (h : eI a = eI b) : a = b := by
  simp only [eI] at h
  grind

theorem eB_inj (a b : Bool) (h : eB a = eB b) : a = b := by
  simp only [eB] at h
  grind

theorem bools_inj {a b : List Bool} : a.map eB = b.map eB ↔ a = b := List.map_inj_right eB_inj

theorem strs_inj {a b : List ByteArray} : a.map eStr = b.map eStr ↔ a = b := List.map_inj_right eStr_inj

theorem ints_inj {a b : List Int} : a.map eI = b.map eI ↔ a = b := List.map_inj_right eI_inj

theorem eEnt_inj (a b : Ent) (h : eEnt a = eEnt b) : a = b := by
  simp only [eEnt] at h
  simp [strs_inj] at h
  cases a
  cases b
  simp_all

theorem ents_inj {a b : List Ent} : a.map eEnt = b.map eEnt ↔ a = b := List.map_inj_right eEnt_inj

theorem eLst_inj (a b : Lst) (h : eLst a = eLst b) : a = b := by
  simp only [eLst] at h
  simp [ents_inj] at h
  cases a
  cases b
  simp_all

theorem eItm_inj (a b : Itm) (h : eItm a = eItm b) : a = b := by
  obtain ⟨n, e⟩ := a
  obtain ⟨n', e'⟩ := b
  have h1 : n = n' ∧ eEnt e = eEnt e' := by
    simp only [eItm, eEnt] at h ⊢
    simp only [List.cons.injEq] at h ⊢
    exact ⟨by have := h.1; simp at this; exact this, h.2⟩
  rw [h1.1, eEnt_inj _ _ h1.2]

theorem itms_inj {a b : List Itm} : a.map eItm = b.map eItm ↔ a = b := List.map_inj_right eItm_inj

theorem eTrn_inj (a b : Trn) (h : eTrn a = eTrn b) : a = b := by
  obtain ⟨n, e, k⟩ := a
  obtain ⟨n', e', k'⟩ := b
  obtain ⟨u, m, br, d, ke, g, x⟩ := e
  obtain ⟨u', m', br', d', ke', g', x'⟩ := e'
  simp only [eTrn] at h
  simp [strs_inj] at h
  simp_all

theorem trns_inj {a b : List Trn} : a.map eTrn = b.map eTrn ↔ a = b := List.map_inj_right eTrn_inj

theorem eEnt_iff {a b : Ent} : eEnt a = eEnt b ↔ a = b := ⟨eEnt_inj a b, fun h => h ▸ rfl⟩

theorem eLst_iff {a b : Lst} : eLst a = eLst b ↔ a = b := ⟨eLst_inj a b, fun h => h ▸ rfl⟩

theorem eTrn_iff {a b : Trn} : eTrn a = eTrn b ↔ a = b := ⟨eTrn_inj a b, fun h => h ▸ rfl⟩

theorem unStrs (xs : List ByteArray) : unenc (List.map eStr) (xs.map eStr) = some xs := unenc_of (fun a b h => strs_inj.1 h) xs rfl

theorem unInts (xs : List Int) : unenc (List.map eI) (xs.map eI) = some xs := unenc_of (fun a b h => ints_inj.1 h) xs rfl

theorem unBools (xs : List Bool) : unenc (List.map eB) (xs.map eB) = some xs := unenc_of (fun a b h => bools_inj.1 h) xs rfl

theorem unEnts (xs : List Ent) : unenc (List.map eEnt) (xs.map eEnt) = some xs := unenc_of (fun a b h => ents_inj.1 h) xs rfl

theorem unItms (xs : List Itm) : unenc (List.map eItm) (xs.map eItm) = some xs := unenc_of (fun a b h => itms_inj.1 h) xs rfl

theorem etaLst (l : Lst) : Lst.mk l.target l.first l.breaks l.entries l.ended = l := rfl

theorem etaEnt (e : Ent) : Ent.mk e.uri e.milli e.brk e.date e.key e.gap e.extra = e := rfl

theorem unTrns (xs : List Trn) : unenc (List.map eTrn) (xs.map eTrn) = some xs := unenc_of (fun a b h => trns_inj.1 h) xs rfl

noncomputable def lks : List Lk := [⟨9, lkp eStr ⟨#[]⟩⟩, ⟨3, lkp eI 0⟩, ⟨25, lkp eI 0⟩, ⟨50, lkp eEnt default⟩, ⟨52, lkp eTrn default⟩, ⟨4, lkp eB false⟩]

theorem lks_ok : ∀ x ∈ lks, LkOK x := by
  simp only [lks, List.forall_mem_cons]
  exact ⟨lkp_ok, lkp_ok, lkp_ok, lkp_ok, lkp_ok, lkp_ok, by simp⟩

end M

def F.bs (s : ByteArray) : List UInt8 := s.data.toList

theorem F.bs_get (s : ByteArray) (k : Nat) : s[k]? = (F.bs s)[k]? := by
  unfold F.bs
  by_cases h : k < s.size
  · have h' : k < s.data.toList.length := by simp; exact h
    rw [getElem?_pos s k h, List.getElem?_eq_getElem h']
    simp [ByteArray.getElem_eq_getElem_data]
  · have h' : ¬ k < s.data.toList.length := by simp; simpa using h
    rw [getElem?_neg s k h, List.getElem?_eq_none (by omega)]

theorem F.bs_len (s : ByteArray) : (F.bs s).length = s.size := by simp [F.bs]

def F.out (n l h : Int) : Bool := decide (n < l) || decide (h < n)

def F.visB (lo : Int) (b : UInt8) : Bool := !(decide ((b.toNat : Int) < lo) || decide ((126 : Int) < (b.toNat : Int)))

def F.visL (lo : Int) (l : List UInt8) : Bool := l.all (F.visB lo)

def F.vis (s : ByteArray) (lo : Int) : Bool := F.visL lo (F.bs s)

namespace M

noncomputable def en0 : Env := envH ty noG lks [] [] [] []

theorem en0_ok : EnvOK Tryz.prog en0 := by
  refine envH_ok lks_ok ty_ok ?_ ?_
  · simp
  · simp

def encOut1 (n l h : Int) : List AV := [vI n, vI l, vI h]

def encOut (a : Int × Int × Int) : List AV := encOut1 a.1 a.2.1 a.2.2

theorem encOut_inj (a a' : Int × Int × Int) (h : encOut a = encOut a') : a = a' := by
  simp only [encOut, encOut1] at h
  try simp  at h
  grind

theorem unOut (n l h : Int) : unenc encOut ([(vI n), (vI l), (vI h)]) = some (n, l, h) := unenc_of encOut_inj (n, l, h) rfl

def resOut1 (n l h : Int) : AV × Heap := (vB (F.out n l h), [])

def preOut1 (n l h : Int) : Bool := true

noncomputable def oOut : Orc := orc 28 true encOut (fun a => preOut1 a.1 a.2.1 a.2.2) fun a => resOut1 a.1 a.2.1 a.2.2

theorem evOut (n l h : Int) : (runF en0 false Tryz.f28 [vI n, vI l, vI h]).val =
  some ((vB (bif decide (n < l) then true else decide (h < n))), []) := by kernel_rfl

theorem okOut : OrcOK Tryz.prog noG oOut := by
  refine mk_ok Tryz.f28 (keep := false) (by kernel_rfl) (by kernel_rfl) en0_ok mixed (no_loops (by kernel_rfl)) (by first | exact fun _ _ => ⟨rfl, rfl⟩ | (intro h; cases h)) ?_
  rintro ⟨n, l, h⟩ _ _
  show (runF en0 false _ (encOut1 _ _ _)).val = some (resOut1 _ _ _)
  unfold encOut1 resOut1 F.out
  rw [evOut]
  cases decide (n < l) <;> cases decide (h < n) <;> rfl

def stVis (s : ByteArray) (lo : Int) (k : Nat) : St := ⟨[(8, vI k), (7, vI s.size), (1, vU lo), (0, vS s)], []⟩

def stVis1 (a : ByteArray × Int × Nat) : St := stVis a.1 a.2.1 a.2.2

theorem stVis_inj (a a' : ByteArray × Int × Nat) (h : stVis1 a = stVis1 a') : a = a' := by
  simp only [stVis1, stVis] at h
  try simp  at h
  grind

theorem unstVis0 (s : ByteArray) (lo : Int)  : unenc stVis1 (St.mk [(8, (vI (0 : Int))), (7, (vI (↑(ByteArray.size s) : Int))), (1, (vU lo)), (0, (vS s))] []) = some (s, lo, 0) := unenc_of stVis_inj (s, lo, 0) rfl

def outVis (s : ByteArray) (lo : Int) (k : Nat) : T (Ex × St) := .ifB (F.visL lo ((F.bs s).drop k)) (.ret (.exit 0, ⟨[], []⟩)) (.ret (.ret, ⟨[(4, vB false)], []⟩))

noncomputable def prlVis (s : ByteArray) (lo : Int) (k : Nat) : Bool := decide (s.size ≤ 9223372036854775807) && decide (k ≤ s.size)

noncomputable def lpVis : Nat × (St → T (Ex × St)) := (2, lpo [8, 7, 1, 0] [] stVis1 (fun a => prlVis a.1 a.2.1 a.2.2) fun a => outVis a.1 a.2.1 a.2.2)

noncomputable def enVis : Env := envH ty noG lks [] [] [] [lpVis]

theorem enVis_ok : EnvOK Tryz.prog enVis := by
  refine envH_ok lks_ok ty_ok ?_ ?_
  · simp
  · simp

def encVis1 (s : ByteArray) (lo : Int) : List AV := [vS s, vU lo]

def encVis (a : ByteArray × Int) : List AV := encVis1 a.1 a.2

theorem encVis_inj (a a' : ByteArray × Int) (h : encVis a = encVis a') : a = a' := by
  simp only [encVis, encVis1] at h
  try simp  at h
  grind

theorem unVis (s : ByteArray) (lo : Int) : unenc encVis ([(vS s), (vU lo)]) = some (s, lo) := unenc_of encVis_inj (s, lo) rfl

def resVis1 (s : ByteArray) (lo : Int) : AV × Heap := (vB (F.vis s lo), [])

def preVis1 (s : ByteArray) (lo : Int) : Bool := true

noncomputable def oVis : Orc := orc 60 true encVis (fun a => preVis1 a.1 a.2) fun a => resVis1 a.1 a.2

theorem evVisL (s : ByteArray) (lo : Int) (k : Nat) : ((exec enVis (loopN Tryz.f60 0) (stVis s lo k)).bind (lessX ([8, 7, 1, 0], []) ([], []) ([4], []))).val =
  bif decide ((↑k : Int) < (↑(ByteArray.size s) : Int)) then Option.bind s[k]? fun (z : UInt8) => bif !decide ((↑(UInt8.toNat z) : Int) < lo) then Option.bind s[k]? fun (z_1
  : UInt8) => bif bif decide ((↑(UInt8.toNat z) : Int) < lo) then true else decide ((126 : Int) < (↑(UInt8.toNat z_1) : Int)) then some (Ex.ret, St.mk [(4, (vB false))] [])
  else some (Ex.normal, St.mk [(8, (vI (IntKind.wrap IntKind.i64 ((↑k : Int) + (1 : Int))))), (7, (vI (↑(ByteArray.size s) : Int))), (1, (vU lo)), (0, (vS s))] []) else bif
  !decide ((↑(UInt8.toNat z) : Int) < lo) then none else some (Ex.ret, St.mk [(4, (vB false))] []) else some (Ex.exit (0 : Nat), St.mk [] []) := by kernel_rfl

theorem evVis (s : ByteArray) (lo : Int) : (runF enVis false Tryz.f60 [vS s, vU lo]).val =
  Option.bind (unenc stVis1 (St.mk [(8, (vI (0 : Int))), (7, (vI (↑(ByteArray.size s) : Int))), (1, (vU lo)), (0, (vS s))] [])) fun (z : ByteArray × Int × Nat) => bif decide
  (ByteArray.size z.fst ≤ (9223372036854775807 : Nat)) && decide (z.snd.snd ≤ ByteArray.size z.fst) && true then bif F.visL z.snd.fst (List.drop z.snd.snd (F.bs z.fst)) then
  some ((vB true), []) else some ((vB false), []) else none := by kernel_rfl

theorem lpVis_ok (s : ByteArray) (lo : Int) (hs : s.size ≤ 9223372036854775807) (k : Nat) (hk : k ≤ s.size) : ∀ e s', (outVis s lo k).val = some (e, s') → LoopOK enVis (loopN Tryz.f60 0) (stVis s lo k) e s' := by
  refine loop_all (xs := F.bs s) (st := stVis s lo) (n := ([8, 7, 1, 0], [])) (e := ([], [])) (r := ([4], [])) ?_ ⟨by simp, rfl⟩ ⟨by simp, rfl⟩ (fun _ => rfl) ?_ k (by rw [F.bs_len]; exact hk)
  · rw [evVisL, F.bs_len]; simp
  · intro k y hy
    have hk : k < s.size := by rw [← F.bs_len]; exact (List.getElem?_eq_some_iff.1 hy).1
    have hkz : ((k : Int) < (s.size : Int)) := by omega
    have hw : IntKind.i64.wrap ((k : Int) + 1) = ((k + 1 : Nat) : Int) := by rw [wrap_id (by omega) (by omega)]; rfl
    rw [evVisL, F.bs_get, hy]
    simp only [hkz, decide_true, Option.bind_some, hw, F.visB]
    cases h1 : decide ((y.toNat : Int) < lo) <;> cases h2 : decide ((126 : Int) < (y.toNat : Int)) <;> simp_all [stVis]

theorem okVis : OrcOK Tryz.prog noG oVis := by
  refine mk_ok Tryz.f60 (keep := false) (by kernel_rfl) (by kernel_rfl) enVis_ok mixed (one_loop (x0 := loopN Tryz.f60 0) (by kernel_rfl) (lpo_ok ?_)) (by first | exact fun _ _ => ⟨rfl, rfl⟩ | (intro h; cases h)) ?_
  · rintro ⟨s, lo, k⟩ hp
    simp only [prlVis, Bool.and_eq_true, decide_eq_true_eq] at hp
    exact lpVis_ok s lo hp.1 k hp.2
  · rintro ⟨s, lo⟩ _ hok
    have hs := okA_str (hok _ (List.mem_cons_self ..))
    show (runF enVis false _ (encVis1 _ _)).val = some (resVis1 _ _)
    unfold encVis1 resVis1
    rw [evVis, unstVis0]
    simp [hs, F.vis]
    cases F.visL lo (F.bs s) <;> rfl

end M

def F.letter (n : Int) : Bool := decide (97 ≤ n) && decide (n ≤ 122)

def F.digit (n : Int) : Bool := decide (48 ≤ n) && decide (n ≤ 57)

def F.seq (a b : ByteArray) : Bool := a.toList == b.toList

def F.hasPrefix (s p : ByteArray) : Bool := decide (p.size ≤ s.size) && F.seq (s.extract 0 p.size) p

namespace M

def encLetter1 (n : Int) : List AV := [vU n]

def encLetter (a : Int) : List AV := encLetter1 a

theorem encLetter_inj (a a' : Int) (h : encLetter a = encLetter a') : a = a' := by
  simp only [encLetter, encLetter1] at h
  try simp  at h
  grind

theorem unLetter (n : Int) : unenc encLetter ([(vU n)]) = some (n) := unenc_of encLetter_inj (n) rfl

def resLetter1 (n : Int) : AV × Heap := (vB (F.letter n), [])

def preLetter1 (n : Int) : Bool := true

noncomputable def oLetter : Orc := orc 85 true encLetter (fun a => preLetter1 a) fun a => resLetter1 a

theorem evLetter (n : Int) : (runF en0 false Tryz.f85 [vU n]).val =
  some ((vB (bif decide ((97 : Int) ≤ n) then decide (n ≤ (122 : Int)) else false)), []) := by kernel_rfl

theorem okLetter : OrcOK Tryz.prog noG oLetter := by
  refine mk_ok Tryz.f85 (keep := false) (by kernel_rfl) (by kernel_rfl) en0_ok mixed (no_loops (by kernel_rfl)) (by first | exact fun _ _ => ⟨rfl, rfl⟩ | (intro h; cases h)) ?_
  rintro n _ hok
  show (runF en0 false _ (encLetter1 _)).val = some (resLetter1 _)
  unfold encLetter1 resLetter1
  rw [evLetter]
  unfold F.letter
  cases decide ((97 : Int) ≤ n) <;> rfl

def encDigit1 (n : Int) : List AV := [vU n]

def encDigit (a : Int) : List AV := encDigit1 a

theorem encDigit_inj (a a' : Int) (h : encDigit a = encDigit a') : a = a' := by
  simp only [encDigit, encDigit1] at h
  try simp  at h
  grind

theorem unDigit (n : Int) : unenc encDigit ([(vU n)]) = some (n) := unenc_of encDigit_inj (n) rfl

def resDigit1 (n : Int) : AV × Heap := (vB (F.digit n), [])

def preDigit1 (n : Int) : Bool := true

noncomputable def oDigit : Orc := orc 86 true encDigit (fun a => preDigit1 a) fun a => resDigit1 a

theorem evDigit (n : Int) : (runF en0 false Tryz.f86 [vU n]).val =
  some ((vB (bif decide ((48 : Int) ≤ n) then decide (n ≤ (57 : Int)) else false)), []) := by kernel_rfl

theorem okDigit : OrcOK Tryz.prog noG oDigit := by
  refine mk_ok Tryz.f86 (keep := false) (by kernel_rfl) (by kernel_rfl) en0_ok mixed (no_loops (by kernel_rfl)) (by first | exact fun _ _ => ⟨rfl, rfl⟩ | (intro h; cases h)) ?_
  rintro n _ hok
  show (runF en0 false _ (encDigit1 _)).val = some (resDigit1 _)
  unfold encDigit1 resDigit1
  rw [evDigit]
  unfold F.digit
  cases decide ((48 : Int) ≤ n) <;> rfl

def encHasPre01 (s p : ByteArray) : List AV := [vS s, vS p]

def encHasPre0 (a : ByteArray × ByteArray) : List AV := encHasPre01 a.1 a.2

theorem encHasPre0_inj (a a' : ByteArray × ByteArray) (h : encHasPre0 a = encHasPre0 a') : a = a' := by
  simp only [encHasPre0, encHasPre01] at h
  try simp  at h
  grind

theorem unHasPre0 (s p : ByteArray) : unenc encHasPre0 ([(vS s), (vS p)]) = some (s, p) := unenc_of encHasPre0_inj (s, p) rfl

def resHasPre01 (s p : ByteArray) : AV × Heap := (vB (F.hasPrefix s p), [])

def preHasPre01 (s p : ByteArray) : Bool := true

noncomputable def oHasPre0 : Orc := orc 87 true encHasPre0 (fun a => preHasPre01 a.1 a.2) fun a => resHasPre01 a.1 a.2

theorem evHasPre0 (s p : ByteArray) : (runF en0 false Tryz.f87 [vS s, vS p]).val =
  bif decide ((↑(ByteArray.size p) : Int) ≤ (↑(ByteArray.size s) : Int)) then bif Nat.ble (0 : Nat) (ByteArray.size p) && Nat.ble (ByteArray.size p) (ByteArray.size s) then
  some ((vB (bif decide ((↑(ByteArray.size p) : Int) ≤ (↑(ByteArray.size s) : Int)) then ByteArray.toList (ByteArray.extract s (0 : Nat) (ByteArray.size p)) ==
  ByteArray.toList p else false)), []) else none else bif decide ((↑(ByteArray.size p) : Int) ≤ (↑(ByteArray.size s) : Int)) then none else some ((vB false), []) := by kernel_rfl

theorem okHasPre0 : OrcOK Tryz.prog noG oHasPre0 := by
  refine mk_ok Tryz.f87 (keep := false) (by kernel_rfl) (by kernel_rfl) en0_ok mixed (no_loops (by kernel_rfl)) (by first | exact fun _ _ => ⟨rfl, rfl⟩ | (intro h; cases h)) ?_
  rintro ⟨s, p⟩ _ hok
  show (runF en0 false _ (encHasPre01 _ _)).val = some (resHasPre01 _ _)
  unfold encHasPre01 resHasPre01
  rw [evHasPre0]
  unfold F.hasPrefix F.seq
  by_cases h : p.size ≤ s.size
  · have h' : (p.size : Int) ≤ s.size := by omega
    have hb : Nat.ble p.size s.size = true := ble_t h
    have hb0 : Nat.ble 0 p.size = true := ble_t (Nat.zero_le _)
    simp only [h, h', hb, hb0, decide_true, Bool.true_and, cond_true]
  · have h' : ¬ (p.size : Int) ≤ s.size := by omega
    simp [h, h']

noncomputable def enHasPre : Env := envH ty noG lks [oHasPre0] [] [] []

theorem enHasPre_ok : EnvOK Tryz.prog enHasPre := by
  refine envH_ok lks_ok ty_ok ?_ ?_
  · simp only [List.forall_mem_cons]
    exact ⟨okHasPre0, by simp⟩
  · simp

def encHasPre1 (s p : ByteArray) : List AV := [vS s, vS p]

def encHasPre (a : ByteArray × ByteArray) : List AV := encHasPre1 a.1 a.2

theorem encHasPre_inj (a a' : ByteArray × ByteArray) (h : encHasPre a = encHasPre a') : a = a' := by
  simp only [encHasPre, encHasPre1] at h
  try simp  at h
  grind

theorem unHasPre (s p : ByteArray) : unenc encHasPre ([(vS s), (vS p)]) = some (s, p) := unenc_of encHasPre_inj (s, p) rfl

def resHasPre1 (s p : ByteArray) : AV × Heap := (vB (F.hasPrefix s p), [])

def preHasPre1 (s p : ByteArray) : Bool := true

noncomputable def oHasPre : Orc := orc 59 true encHasPre (fun a => preHasPre1 a.1 a.2) fun a => resHasPre1 a.1 a.2

theorem evHasPre (s p : ByteArray) : (runF enHasPre false Tryz.f59 [vS s, vS p]).val =
  Option.bind (unenc encHasPre0 [(vS s), (vS p)]) fun (z : ByteArray × ByteArray) => some ((vB (F.hasPrefix z.fst z.snd)), []) := by kernel_rfl

theorem okHasPre : OrcOK Tryz.prog noG oHasPre := by
  refine mk_ok Tryz.f59 (keep := false) (by kernel_rfl) (by kernel_rfl) enHasPre_ok mixed (no_loops (by kernel_rfl)) (by first | exact fun _ _ => ⟨rfl, rfl⟩ | (intro h; cases h)) ?_
  rintro ⟨s, p⟩ _ hok
  show (runF enHasPre false _ (encHasPre1 _ _)).val = some (resHasPre1 _ _)
  unfold encHasPre1 resHasPre1
  rw [evHasPre, unHasPre0]
  simp [preHasPre01]

end M

def F.b0 (s : ByteArray) : Int := match (F.bs s)[0]? with
  | some b => (b.toNat : Int)
  | none => 0

def F.uriFault (s : ByteArray) : Int := if F.out s.size 1 200 || decide (F.b0 s = 35) || !F.vis s 33 then 3 else 0

def F.nameB (b : UInt8) : Bool := F.letter b.toNat || F.digit b.toNat || decide ((b.toNat : Int) = 45)

def F.nameL (l : List UInt8) : Bool := l.all F.nameB

def F.isName (s : ByteArray) : Bool := decide (s.size ≠ 0) && decide (s.size ≤ 40) && F.letter (F.b0 s) && F.nameL (F.bs s)

namespace M

noncomputable def enUri : Env := envH ty noG lks [oOut, oVis] [] [] []

theorem enUri_ok : EnvOK Tryz.prog enUri := by
  refine envH_ok lks_ok ty_ok ?_ ?_
  · simp only [List.forall_mem_cons]
    exact ⟨okOut, okVis, by simp⟩
  · simp

theorem evUri (s : ByteArray) : (runF enUri false Tryz.f57 [vS s]).val =
  Option.bind (unenc encOut [(vI (↑(ByteArray.size s) : Int)), (vI (1 : Int)), (vI (200 : Int))]) fun (z : Int × Int × Int) => bif !F.out z.fst z.snd.fst z.snd.snd then
  Option.bind s[(0 : Nat)]? fun (z_1 : UInt8) => bif !bif F.out z.fst z.snd.fst z.snd.snd then true else (↑(UInt8.toNat z_1) : Int) == (35 : Int) then Option.bind (unenc
  encVis [(vS s), (vU (33 : Int))]) fun (z_2 : ByteArray × Int) => bif bif bif F.out z.fst z.snd.fst z.snd.snd then true else (↑(UInt8.toNat z_1) : Int) == (35 : Int) then
  true else !F.vis z_2.fst z_2.snd then some ((vI (3 : Int)), []) else some ((vI (0 : Int)), []) else bif !bif F.out z.fst z.snd.fst z.snd.snd then true else (↑(UInt8.toNat
  z_1) : Int) == (35 : Int) then none else some ((vI (3 : Int)), []) else bif !F.out z.fst z.snd.fst z.snd.snd then none else some ((vI (3 : Int)), []) := by kernel_rfl

def encUri1 (s : ByteArray) : List AV := [vS s]

def encUri (a : ByteArray) : List AV := encUri1 a

theorem encUri_inj (a a' : ByteArray) (h : encUri a = encUri a') : a = a' := by
  simp only [encUri, encUri1] at h
  try simp  at h
  grind

theorem unUri (s : ByteArray) : unenc encUri ([(vS s)]) = some (s) := unenc_of encUri_inj (s) rfl

def resUri1 (s : ByteArray) : AV × Heap := (vI (F.uriFault s), [])

def preUri1 (s : ByteArray) : Bool := true

noncomputable def oUri : Orc := orc 57 true encUri (fun a => preUri1 a) fun a => resUri1 a

theorem okUri : OrcOK Tryz.prog noG oUri := by
  refine mk_ok Tryz.f57 (keep := false) (by kernel_rfl) (by kernel_rfl) enUri_ok mixed (no_loops (by kernel_rfl)) (by first | exact fun _ _ => ⟨rfl, rfl⟩ | (intro h; cases h)) ?_
  rintro s _ hok
  show (runF enUri false _ (encUri1 _)).val = some (resUri1 _)
  unfold encUri1 resUri1
  rw [evUri, unOut]
  simp only [Option.bind_some, unVis]
  unfold F.uriFault F.b0
  rw [F.bs_get]
  have h0 := F.bs_len s
  cases h1 : F.out s.size 1 200
  · have : 0 < s.size := by simp [F.out] at h1; omega
    cases hb : F.bs s with
    | nil => rw [hb] at h0; simp at h0; omega
    | cons b l =>
      simp
      grind
  · simp

def stName (s : ByteArray) (k : Nat) : St := ⟨[(20, vI k), (19, vI s.size), (0, vS s)], []⟩

def stName1 (a : ByteArray × Nat) : St := stName a.1 a.2

theorem stName_inj (a a' : ByteArray × Nat) (h : stName1 a = stName1 a') : a = a' := by
  simp only [stName1, stName] at h
  try simp  at h
  grind

theorem unstName0 (s : ByteArray)  : unenc stName1 (St.mk [(20, (vI (0 : Int))), (19, (vI (↑(ByteArray.size s) : Int))), (0, (vS s))] []) = some (s, 0) := unenc_of stName_inj (s, 0) rfl

def outName (s : ByteArray) (k : Nat) : T (Ex × St) := .ifB (F.nameL ((F.bs s).drop k)) (.ret (.exit 0, ⟨[], []⟩)) (.ret (.ret, ⟨[(2, vB false)], []⟩))

noncomputable def prlName (s : ByteArray) (k : Nat) : Bool := decide (s.size ≤ 9223372036854775807) && decide (k ≤ s.size)

noncomputable def lpName : Nat × (St → T (Ex × St)) := (4, lpo [20, 19, 0] [] stName1 (fun a => prlName a.1 a.2) fun a => outName a.1 a.2)

noncomputable def enName : Env := envH ty noG lks [oLetter, oDigit] [] [] [lpName]

theorem enName_ok : EnvOK Tryz.prog enName := by
  refine envH_ok lks_ok ty_ok ?_ ?_
  · simp only [List.forall_mem_cons]
    exact ⟨okLetter, okDigit, by simp⟩
  · simp

theorem evNameL (s : ByteArray) (k : Nat) : ((exec enName (loopN Tryz.f58 0) (stName s k)).bind (lessX ([20, 19, 0], []) ([], []) ([2], []))).val =
  (fun (q : Option (Ex × St)) => bif decide ((↑k : Int) < (↑(ByteArray.size s) : Int)) then Option.bind s[k]? fun (z : UInt8) => Option.bind (unenc encLetter [(vU
  (↑(UInt8.toNat z) : Int))]) fun (z : Int) => bif !F.letter z then Option.bind s[k]? fun (z_1 : UInt8) => bif !F.letter z then Option.bind (unenc encDigit [(vU
  (↑(UInt8.toNat z_1) : Int))]) fun (z_2 : Int) => (fun (q_1 : Bool) => bif q_1 then Option.bind s[k]? fun (z : UInt8) => bif bif q_1 then (↑(UInt8.toNat z) : Int) != (45 :
  Int) else false then some (Ex.ret, St.mk [(2, (vB false))] []) else q else bif q_1 then none else q) (bif !F.letter z then !F.digit z_2 else false) else bif !F.letter z
  then none else q else bif !F.letter z then Option.bind (unenc encDigit [AV.unk]) fun (z_1 : Int) => (fun (q_1 : Bool) => bif q_1 then Option.bind s[k]? fun (z : UInt8) =>
  bif bif q_1 then (↑(UInt8.toNat z) : Int) != (45 : Int) else false then some (Ex.ret, St.mk [(2, (vB false))] []) else q else bif q_1 then none else q) (bif !F.letter z
  then !F.digit z_1 else false) else bif !F.letter z then none else q else some (Ex.exit (0 : Nat), St.mk [] [])) (some (Ex.normal, St.mk [(20, (vI (IntKind.wrap IntKind.i64
  ((↑k : Int) + (1 : Int))))), (19, (vI (↑(ByteArray.size s) : Int))), (0, (vS s))] [])) := by kernel_rfl

theorem evName (s : ByteArray) : (runF enName false Tryz.f58 [vS s]).val =
  bif !bif (↑(ByteArray.size s) : Int) == (0 : Int) then true else decide ((40 : Int) < (↑(ByteArray.size s) : Int)) then Option.bind s[(0 : Nat)]? fun (z : UInt8) => bif
  !bif (↑(ByteArray.size s) : Int) == (0 : Int) then true else decide ((40 : Int) < (↑(ByteArray.size s) : Int)) then Option.bind (unenc encLetter [(vU (↑(UInt8.toNat z) :
  Int))]) fun (z : Int) => bif bif bif (↑(ByteArray.size s) : Int) == (0 : Int) then true else decide ((40 : Int) < (↑(ByteArray.size s) : Int)) then true else !F.letter z
  then some ((vB false), []) else Option.bind (unenc stName1 (St.mk [(20, (vI (0 : Int))), (19, (vI (↑(ByteArray.size s) : Int))), (0, (vS s))] [])) fun (z : ByteArray ×
  Nat) => bif decide (ByteArray.size z.fst ≤ (9223372036854775807 : Nat)) && decide (z.snd ≤ ByteArray.size z.fst) && true then bif F.nameL (List.drop z.snd (F.bs z.fst))
  then some ((vB true), []) else some ((vB false), []) else none else bif !bif (↑(ByteArray.size s) : Int) == (0 : Int) then true else decide ((40 : Int) < (↑(ByteArray.size
  s) : Int)) then none else some ((vB false), []) else bif !bif (↑(ByteArray.size s) : Int) == (0 : Int) then true else decide ((40 : Int) < (↑(ByteArray.size s) : Int))
  then Option.bind (unenc encLetter [AV.unk]) fun (z : Int) => bif bif bif (↑(ByteArray.size s) : Int) == (0 : Int) then true else decide ((40 : Int) < (↑(ByteArray.size s)
  : Int)) then true else !F.letter z then some ((vB false), []) else Option.bind (unenc stName1 (St.mk [(20, (vI (0 : Int))), (19, (vI (↑(ByteArray.size s) : Int))), (0, (vS
  s))] [])) fun (z : ByteArray × Nat) => bif decide (ByteArray.size z.fst ≤ (9223372036854775807 : Nat)) && decide (z.snd ≤ ByteArray.size z.fst) && true then bif F.nameL
  (List.drop z.snd (F.bs z.fst)) then some ((vB true), []) else some ((vB false), []) else none else bif !bif (↑(ByteArray.size s) : Int) == (0 : Int) then true else decide
  ((40 : Int) < (↑(ByteArray.size s) : Int)) then none else some ((vB false), []) := by kernel_rfl

theorem lpName_ok (s : ByteArray) (hs : s.size ≤ 9223372036854775807) (k : Nat) (hk : k ≤ s.size) : ∀ e s', (outName s k).val = some (e, s') → LoopOK enName (loopN Tryz.f58 0) (stName s k) e s' := by
  refine loop_all (xs := F.bs s) (st := stName s) (n := ([20, 19, 0], [])) (e := ([], [])) (r := ([2], [])) ?_ ⟨by simp, rfl⟩ ⟨by simp, rfl⟩ (fun _ => rfl) ?_ k (by rw [F.bs_len]; exact hk)
  · rw [evNameL, F.bs_len]; simp
  · intro k y hy
    have hk : k < s.size := by rw [← F.bs_len]; exact (List.getElem?_eq_some_iff.1 hy).1
    have hkz : ((k : Int) < (s.size : Int)) := by omega
    have hw : IntKind.i64.wrap ((k : Int) + 1) = ((k + 1 : Nat) : Int) := by rw [wrap_id (by omega) (by omega)]; rfl
    rw [evNameL, F.bs_get, hy]
    simp only [hkz, decide_true, Option.bind_some, hw, unLetter, unDigit, F.nameB, stName]
    grind

def encName1 (s : ByteArray) : List AV := [vS s]

def encName (a : ByteArray) : List AV := encName1 a

theorem encName_inj (a a' : ByteArray) (h : encName a = encName a') : a = a' := by
  simp only [encName, encName1] at h
  try simp  at h
  grind

theorem unName (s : ByteArray) : unenc encName ([(vS s)]) = some (s) := unenc_of encName_inj (s) rfl

def resName1 (s : ByteArray) : AV × Heap := (vB (F.isName s), [])

def preName1 (s : ByteArray) : Bool := true

noncomputable def oName : Orc := orc 58 true encName (fun a => preName1 a) fun a => resName1 a

theorem okName : OrcOK Tryz.prog noG oName := by
  refine mk_ok Tryz.f58 (keep := false) (by kernel_rfl) (by kernel_rfl) enName_ok mixed (one_loop (x0 := loopN Tryz.f58 0) (by kernel_rfl) (lpo_ok ?_)) (by first | exact fun _ _ => ⟨rfl, rfl⟩ | (intro h; cases h)) ?_
  · rintro ⟨s, k⟩ hp
    simp only [prlName, Bool.and_eq_true, decide_eq_true_eq] at hp
    exact lpName_ok s hp.1 k hp.2
  · rintro s _ hok
    have hs := okA_str (hok _ (List.mem_cons_self ..))
    show (runF enName false _ (encName1 _)).val = some (resName1 _)
    unfold encName1 resName1
    rw [evName]
    have h0 := F.bs_len s
    simp only [Option.bind_some, unLetter, unstName0, F.bs_get, F.isName, F.b0, hs]
    cases hb : F.bs s with
    | nil => rw [hb] at h0; simp at h0; simp [← h0]
    | cons b l =>
      rw [hb] at h0
      simp at h0
      have a1 : ((s.size : Int) == 0) = false := by rw [beq_eq_false_iff_ne]; omega
      have a2 : decide ((40 : Int) < s.size) = !decide (s.size ≤ 40) := by by_cases h : s.size ≤ 40 <;> simp [h] <;> omega
      have a3 : decide (s.size ≠ 0) = true := decide_eq_true (by omega)
      simp only [a1, a2, a3]
      cases decide (s.size ≤ 40) <;> cases h1 : F.letter b.toNat <;> cases h2 : F.nameL (b :: l) <;> simp [h1, h2]

end M

def F.extraFault (s : ByteArray) : Int := if !F.hasPrefix s ⟨#[35, 88]⟩ || !F.vis s 32 then 3 else if 300 < s.size then 2 else 0

def F.extrasFault (l : List ByteArray) : Int := M.ffI F.extraFault l

def F.entryFault (e : Ent) (target : Int) : Int :=
  if F.uriFault e.uri ≠ 0 then F.uriFault e.uri else
  if F.out e.milli 1 3600000 then 1 else
  if target < (e.milli + 500) / 1000 then 2 else
  if F.out e.date (-1) 253402300799999 then 1 else
  if !F.seq e.key ⟨#[]⟩ && !F.isName e.key then 5 else
  if 20 < e.extra.length then 2 else F.extrasFault e.extra

def F.entsFault (target : Int) (l : List Ent) : Int := M.ffI (fun e => F.entryFault e target) l

def F.check (l : Lst) : Int :=
  if F.out l.target 1 3600 || F.out l.first 0 999999999999000 || F.out l.breaks 0 1000000000000000 then 1 else
  if 1000 < l.entries.length then 2 else F.entsFault l.target l.entries

namespace M

def stEntF (xs : List ByteArray) (k : Nat) : St := ⟨[(47, vI k), (46, vI xs.length), (45, .sl (xs.map eStr))], []⟩

def stEntF1 (a : (List ByteArray) × Nat) : St := stEntF a.1 a.2

theorem stEntF_inj (a a' : (List ByteArray) × Nat) (h : stEntF1 a = stEntF1 a') : a = a' := by
  simp only [stEntF1, stEntF] at h
  try simp [strs_inj, ents_inj, eEnt_iff, eLst_iff] at h
  grind

theorem unstEntF0 (xs : List ByteArray)  : unenc stEntF1 (St.mk [(47, (vI (0 : Int))), (46, (vI (↑(List.length xs) : Int))), (45, AV.sl (List.map eStr xs))] []) = some (xs, 0) := unenc_of stEntF_inj (xs, 0) rfl

def outEntF (xs : List ByteArray) (k : Nat) : T (Ex × St) := .ifB (decide (F.extrasFault (xs.drop k) = 0)) (.ret (.exit 1, ⟨[], []⟩)) (.ret (.ret, ⟨[(4, vI (F.extrasFault (xs.drop k)))], []⟩))

noncomputable def prlEntF (xs : List ByteArray) (k : Nat) : Bool := decide (xs.length ≤ 9223372036854775807) && decide (k ≤ xs.length)

noncomputable def lpEntF : Nat × (St → T (Ex × St)) := (15, lpo [47, 46, 45] [] stEntF1 (fun a => prlEntF a.1 a.2) fun a => outEntF a.1 a.2)

noncomputable def enEntF : Env := envH ty noG lks [oUri, oOut, oName, oHasPre, oVis] [] [] [lpEntF]

theorem enEntF_ok : EnvOK Tryz.prog enEntF := by
  refine envH_ok lks_ok ty_ok ?_ ?_
  · simp only [List.forall_mem_cons]
    exact ⟨okUri, okOut, okName, okHasPre, okVis, by simp⟩
  · simp

theorem evEntFL (xs : List ByteArray) (k : Nat) : ((exec enEntF (loopN Tryz.f29 0) (stEntF xs k)).bind (lessX ([47, 46, 45], []) ([], []) ([4], []))).val =
  bif decide ((↑k : Int) < (↑(List.length xs) : Int)) then Option.bind (unenc (List.map eStr) (List.map eStr xs)) fun (z : List ByteArray) => bif decide (k < List.length z)
  then Option.bind (unenc encHasPre [(vS (List.getD z k (ByteArray.mk (Array.mk [])))), (vS (ByteArray.mk (Array.mk [(35 : UInt8), (88 : UInt8)])))]) fun (z_1 : ByteArray ×
  ByteArray) => bif !!F.hasPrefix z_1.fst z_1.snd then Option.bind (unenc encVis [(vS (List.getD z k (ByteArray.mk (Array.mk [])))), (vU (32 : Int))]) fun (z_2 : ByteArray ×
  Int) => bif bif !F.hasPrefix z_1.fst z_1.snd then true else !F.vis z_2.fst z_2.snd then some (Ex.ret, St.mk [(4, (vI (3 : Int)))] []) else bif decide ((300 : Int) <
  (↑(ByteArray.size (List.getD z k (ByteArray.mk (Array.mk [])))) : Int)) then some (Ex.ret, St.mk [(4, (vI (2 : Int)))] []) else some (Ex.normal, St.mk [(47, (vI
  (IntKind.wrap IntKind.i64 ((↑k : Int) + (1 : Int))))), (46, (vI (↑(List.length xs) : Int))), (45, AV.sl (List.map eStr xs))] []) else bif !!F.hasPrefix z_1.fst z_1.snd
  then none else some (Ex.ret, St.mk [(4, (vI (3 : Int)))] []) else none else some (Ex.exit (1 : Nat), St.mk [] []) := by kernel_rfl

theorem evEntF (e : Ent) (t : Int) : (runF enEntF false Tryz.f29 [.agg (eEnt e), vI t]).val =
  (fun (q : Int) => (fun (q_1 : Bool) => (fun (q : Option (AV × Heap)) => Option.bind (unenc encUri [(vS e.uri)]) fun (z : ByteArray) => bif F.uriFault z != (0 : Int) then
  some ((vI (F.uriFault z)), []) else Option.bind (unenc encOut [(vI e.milli), (vI (1 : Int)), (vI (3600000 : Int))]) fun (z : Int × Int × Int) => bif F.out z.fst z.snd.fst
  z.snd.snd then some ((vI (1 : Int)), []) else bif decide (t < IntKind.wrap IntKind.i64 (Int.tdiv (IntKind.wrap IntKind.i64 (e.milli + (500 : Int))) (1000 : Int))) then
  some ((vI (2 : Int)), []) else Option.bind (unenc encOut [(vI e.date), (vI (-1 : Int)), (vI (253402300799999 : Int))]) fun (z : Int × Int × Int) => bif F.out z.fst
  z.snd.fst z.snd.snd then some ((vI (1 : Int)), []) else bif q_1 then Option.bind (unenc encName [(vS e.key)]) fun (z : ByteArray) => bif bif q_1 then !F.isName z else
  false then some ((vI (5 : Int)), []) else q else bif q_1 then none else q) (bif decide ((20 : Int) < q) then some ((vI (2 : Int)), []) else Option.bind (unenc stEntF1
  (St.mk [(47, (vI (0 : Int))), (46, (vI q)), (45, AV.sl (List.map eStr e.extra))] [])) fun (z : List ByteArray × Nat) => bif decide (List.length z.fst ≤
  (9223372036854775807 : Nat)) && decide (z.snd ≤ List.length z.fst) && true then bif decide (F.extrasFault (List.drop z.snd z.fst) = (0 : Int)) then some ((vI (0 : Int)),
  []) else some ((vI (F.extrasFault (List.drop z.snd z.fst))), []) else none)) !ByteArray.toList e.key == ByteArray.toList (ByteArray.mk (Array.mk []))) (↑(List.length
  (List.map eStr e.extra)) : Int) := by kernel_rfl

theorem lpEntF_ok (xs : List ByteArray) (hs : xs.length ≤ 9223372036854775807) (k : Nat) (hk : k ≤ xs.length) : ∀ e s', (outEntF xs k).val = some (e, s') → LoopOK enEntF (loopN Tryz.f29 0) (stEntF xs k) e s' := by
  refine loop_code (xs := xs) (st := stEntF xs) (g := F.extraFault) (o := fun c => (.ret, ⟨[(4, vI c)], []⟩)) (n := ([47, 46, 45], [])) (e := ([], [])) (r := ([4], [])) ?_ ⟨by simp, rfl⟩ (fun _ => ⟨by simp, rfl⟩) (fun _ => rfl) ?_ k hk
  · rw [evEntFL]; simp
  · intro k y hy
    have hlt := lt_at hy
    rw [evEntFL]
    simp only [cast_lt hlt, decide_eq_true hlt, Option.bind_some, next_at hlt hs, unStrs, unHasPre, unVis, getD_at hy, F.extraFault, stEntF]
    grind

def encEntF1 (e : Ent) (t : Int) : List AV := [.agg (eEnt e), vI t]

def encEntF (a : Ent × Int) : List AV := encEntF1 a.1 a.2

theorem encEntF_inj (a a' : Ent × Int) (h : encEntF a = encEntF a') : a = a' := by
  simp only [encEntF, encEntF1] at h
  try simp [strs_inj, ents_inj, eEnt_iff, eLst_iff] at h
  grind

theorem unEntF (e : Ent) (t : Int) : unenc encEntF ([AV.agg [(vS e.uri), (vI e.milli), (vB e.brk), (vI e.date), (vS e.key), (vB e.gap), AV.sl (List.map eStr e.extra)], (vI t)]) = some (e, t) := unenc_of encEntF_inj (e, t) rfl

theorem unEntFw (e_uri : ByteArray) (e_milli : Int) (e_brk : Bool) (e_date : Int) (e_key : ByteArray) (e_gap : Bool) (e_extra : List ByteArray) (t : Int) : unenc encEntF ([AV.agg [(vS e_uri), (vI e_milli), (vB e_brk), (vI e_date), (vS e_key), (vB e_gap), AV.sl (List.map eStr e_extra)], (vI t)]) = some ((Ent.mk e_uri e_milli e_brk e_date e_key e_gap e_extra), t) := unenc_of encEntF_inj ((Ent.mk e_uri e_milli e_brk e_date e_key e_gap e_extra), t) rfl

def resEntF1 (e : Ent) (t : Int) : AV × Heap := (vI (F.entryFault e t), [])

def preEntF1 (e : Ent) (t : Int) : Bool := true

noncomputable def oEntF : Orc := orc 29 true encEntF (fun a => preEntF1 a.1 a.2) fun a => resEntF1 a.1 a.2

theorem ent_bounds {e : Ent} (h : OkA (.agg (eEnt e))) : (-9223372036854775808 ≤ e.milli ∧ e.milli ≤ 9223372036854775807) ∧ e.extra.length ≤ 9223372036854775807 ∧ (-9223372036854775808 ≤ e.date ∧ e.date ≤ 9223372036854775807) ∧ e.uri.size ≤ 9223372036854775807 ∧ e.key.size ≤ 9223372036854775807 := by
  have h := okA_agg h
  simp only [eEnt, List.forall_mem_cons] at h
  obtain ⟨h1, h2, h3, h4, h5, h6, h7, _⟩ := h
  refine ⟨okA_int h2, ?_, okA_int h4, okA_str h1, okA_str h5⟩
  simpa using (okA_sl h7).1

theorem okEntF : OrcOK Tryz.prog noG oEntF := by
  refine mk_ok Tryz.f29 (keep := false) (by kernel_rfl) (by kernel_rfl) enEntF_ok mixed (one_loop (x0 := loopN Tryz.f29 0) (by kernel_rfl) (lpo_ok ?_)) (by first | exact fun _ _ => ⟨rfl, rfl⟩ | (intro h; cases h)) ?_
  · rintro ⟨xs, k⟩ hp
    simp only [prlEntF, Bool.and_eq_true, decide_eq_true_eq] at hp
    exact lpEntF_ok xs hp.1 k hp.2
  · rintro ⟨e, t⟩ _ hok
    obtain ⟨hm, hx, _⟩ := ent_bounds (hok _ (List.mem_cons_self ..))
    show (runF enEntF false _ (encEntF1 _ _)).val = some (resEntF1 _ _)
    unfold encEntF1 resEntF1
    rw [evEntF]
    simp only [unUri, unOut, unName, unstEntF0, Option.bind_some, List.length_map, F.entryFault, F.seq, hx]
    cases h1 : F.out e.milli 1 3600000
    · have : IntKind.i64.wrap (Int.tdiv (IntKind.i64.wrap (e.milli + 500)) 1000) = (e.milli + 500) / 1000 := by
        simp [F.out] at h1
        rw [wrap_id (n := e.milli + 500) (by omega) (by omega), tdiv_nn (by omega), wrap_id (by omega) (by omega)]
      rw [this]
      simp only [Bool.cond_eq_ite]
      grind
    · simp only [Bool.cond_eq_ite]
      grind

end M

namespace M

end M

theorem F.empty_eq (s : ByteArray) : (s.toList == ByteArray.toList (ByteArray.mk (Array.mk []))) = !decide (s.size ≠ 0) := by
  have : s.toList.length = s.size := by simp [ByteArray.toList_eq]
  have e0 : ByteArray.toList (ByteArray.mk (Array.mk [])) = [] := by simp [ByteArray.toList_eq]
  rw [e0]
  by_cases h : s.size = 0
  · have : s.toList = [] := List.eq_nil_of_length_eq_zero (by omega)
    simp [h, this]
  · have : s.toList ≠ [] := fun hh => h (by rw [← this, hh]; rfl)
    simp [h, this]

namespace M

def stChk (l : Lst) (k : Nat) : St := ⟨[(28, vI k), (27, vI l.entries.length), (26, .sl (l.entries.map eEnt)), (1, .ptr 1 0 0)], [(1, ⟨true, 0, 0, [eLst l]⟩)]⟩

def stChk1 (a : Lst × Nat) : St := stChk a.1 a.2

theorem stChk_inj (a a' : Lst × Nat) (h : stChk1 a = stChk1 a') : a = a' := by
  simp only [stChk1, stChk] at h
  try simp [strs_inj, ents_inj, eEnt_iff, eLst_iff] at h
  grind

theorem unstChk (l : Lst) (k : Nat) : unenc stChk1 (St.mk [(28, (vI (↑k : Int))), (27, (vI (↑(List.length l.entries) : Int))), (26, AV.sl (List.map eEnt l.entries)), (1, .ptr 1 0 0)] [(1, Blk.mk true 0 0 [[(vI l.target),
  (vI l.first), (vI l.breaks), AV.sl (List.map eEnt l.entries), (vB l.ended)]])]) = some (l, k) := unenc_of stChk_inj (l, k) rfl

theorem unstChk0 (l : Lst)  : unenc stChk1 (St.mk [(28, (vI (0 : Int))), (27, (vI (↑(List.length l.entries) : Int))), (26, AV.sl (List.map eEnt l.entries)), (1, .ptr 1 0 0)] [(1, Blk.mk true 0 0 [[(vI l.target), (vI
  l.first), (vI l.breaks), AV.sl (List.map eEnt l.entries), (vB l.ended)]])]) = some (l, 0) := unenc_of stChk_inj (l, 0) rfl

def outChk (l : Lst) (k : Nat) : T (Ex × St) := .ifB (decide (F.entsFault l.target (l.entries.drop k) = 0)) (.ret (.exit 1, ⟨[], []⟩)) (.ret (.ret, ⟨[(2, vI (F.entsFault l.target (l.entries.drop k)))], []⟩))

noncomputable def prlChk (l : Lst) (k : Nat) : Bool := decide (l.entries.length ≤ 9223372036854775807) && decide (k ≤ l.entries.length)

noncomputable def lpChk : Nat × (St → T (Ex × St)) := (6, lpo [28, 27, 26, 1] [1] stChk1 (fun a => prlChk a.1 a.2) fun a => outChk a.1 a.2)

noncomputable def enChk : Env := envH ty noG lks [oOut, oEntF] [] [] [lpChk]

theorem enChk_ok : EnvOK Tryz.prog enChk := by
  refine envH_ok lks_ok ty_ok ?_ ?_
  · simp only [List.forall_mem_cons]
    exact ⟨okOut, okEntF, by simp⟩
  · simp

theorem evChkL (l : Lst) (k : Nat) : ((exec enChk (loopN Tryz.f8 0) (stChk l k)).bind (lessX ([28, 27, 26, 1], [1]) ([], []) ([2], []))).val =
  bif decide ((↑k : Int) < (↑(List.length l.entries) : Int)) then Option.bind (unenc (List.map eEnt) (List.map eEnt l.entries)) fun (z : List Ent) => bif decide (k <
  List.length z) then Option.bind (unenc encEntF [AV.agg [(vS (List.getD z k (Ent.mk (ByteArray.mk (Array.mk [])) (0 : Int) false (0 : Int) (ByteArray.mk (Array.mk []))
  false [])).uri), (vI (List.getD z k (Ent.mk (ByteArray.mk (Array.mk [])) (0 : Int) false (0 : Int) (ByteArray.mk (Array.mk [])) false [])).milli), (vB (List.getD z k
  (Ent.mk (ByteArray.mk (Array.mk [])) (0 : Int) false (0 : Int) (ByteArray.mk (Array.mk [])) false [])).brk), (vI (List.getD z k (Ent.mk (ByteArray.mk (Array.mk [])) (0 :
  Int) false (0 : Int) (ByteArray.mk (Array.mk [])) false [])).date), (vS (List.getD z k (Ent.mk (ByteArray.mk (Array.mk [])) (0 : Int) false (0 : Int) (ByteArray.mk
  (Array.mk [])) false [])).key), (vB (List.getD z k (Ent.mk (ByteArray.mk (Array.mk [])) (0 : Int) false (0 : Int) (ByteArray.mk (Array.mk [])) false [])).gap), AV.sl
  (List.map eStr (List.getD z k (Ent.mk (ByteArray.mk (Array.mk [])) (0 : Int) false (0 : Int) (ByteArray.mk (Array.mk [])) false [])).extra)], (vI l.target)]) fun (z : Ent
  × Int) => bif F.entryFault z.fst z.snd != (0 : Int) then some (Ex.ret, St.mk [(2, (vI (F.entryFault z.fst z.snd)))] []) else some (Ex.normal, St.mk [(28, (vI (IntKind.wrap
  IntKind.i64 ((↑k : Int) + (1 : Int))))), (27, (vI (↑(List.length l.entries) : Int))), (26, AV.sl (List.map eEnt l.entries)), (1, .ptr 1 0 0)] [(1, Blk.mk true 0 0 [[(vI
  l.target), (vI l.first), (vI l.breaks), AV.sl (List.map eEnt l.entries), (vB l.ended)]])]) else none else some (Ex.exit (1 : Nat), St.mk [] []) := by kernel_rfl

theorem lpChk_ok (l : Lst) (k : Nat) (hp : prlChk l k = true) : ∀ ex s', (outChk l k).val = some (ex, s') → LoopOK enChk (loopN Tryz.f8 0) (stChk l k) ex s' := by
  simp only [prlChk, Bool.and_eq_true, decide_eq_true_eq] at hp
  refine loop_code (xs := l.entries) (st := stChk l) (g := fun e => F.entryFault e l.target) (o := fun c => (.ret, ⟨[(2, vI c)], []⟩)) (n := ([28, 27, 26, 1], [1])) (e := ([], [])) (r := ([2], [])) ?_ ⟨by simp, rfl⟩ (fun _ => ⟨by simp, rfl⟩) (fun _ => rfl) ?_ k hp.2
  · rw [evChkL]; simp
  · intro k y hy
    have hlt := lt_at hy
    rw [evChkL]
    simp only [unOut, unEntF, unEntFw, preOut1, preEntF1, unstChk, unstChk0, prlChk, outChk, etaEnt, etaLst, Option.bind_some, List.length_map, unStrs, unInts, unBools, unEnts, unItms, unTrns, cond_true, cond_false, Bool.and_true, Bool.true_and, cast_lt hlt, decide_eq_true hlt, next_at hlt hp.1, getD_at hy, stChk, eEnt, eLst]
    grind

theorem evChk (l : Lst) : (runF enChk false Tryz.f8 [.agg (eLst l)]).val =
  Option.bind (unenc encOut [(vI l.target), (vI (1 : Int)), (vI (3600 : Int))]) fun (z : Int × Int × Int) => bif !F.out z.fst z.snd.fst z.snd.snd then Option.bind (unenc
  encOut [(vI l.first), (vI (0 : Int)), (vI (999999999999000 : Int))]) fun (z_1 : Int × Int × Int) => bif !bif F.out z.fst z.snd.fst z.snd.snd then true else F.out z_1.fst
  z_1.snd.fst z_1.snd.snd then Option.bind (unenc encOut [(vI l.breaks), (vI (0 : Int)), (vI (1000000000000000 : Int))]) fun (z_2 : Int × Int × Int) => bif bif bif F.out
  z.fst z.snd.fst z.snd.snd then true else F.out z_1.fst z_1.snd.fst z_1.snd.snd then true else F.out z_2.fst z_2.snd.fst z_2.snd.snd then some ((vI (1 : Int)), []) else bif
  decide ((1000 : Int) < (↑(List.length (List.map eEnt l.entries)) : Int)) then some ((vI (2 : Int)), []) else Option.bind (unenc stChk1 (St.mk [(28, (vI (0 : Int))), (27,
  (vI (↑(List.length (List.map eEnt l.entries)) : Int))), (26, AV.sl (List.map eEnt l.entries)), (1, .ptr 1 0 0)] [(1, Blk.mk true 0 0 [[(vI l.target), (vI l.first), (vI
  l.breaks), AV.sl (List.map eEnt l.entries), (vB l.ended)]])])) fun (z : Lst × Nat) => bif decide (List.length z.fst.entries ≤ (9223372036854775807 : Nat)) && decide (z.snd
  ≤ List.length z.fst.entries) && true then bif decide (F.entsFault z.fst.target (List.drop z.snd z.fst.entries) = (0 : Int)) then some ((vI (0 : Int)), []) else some ((vI
  (F.entsFault z.fst.target (List.drop z.snd z.fst.entries))), []) else none else some ((vI (1 : Int)), []) else some ((vI (1 : Int)), []) := by kernel_rfl

def encChk1 (l : Lst) : List AV := [.agg (eLst l)]

def encChk (a : Lst) : List AV := encChk1 a

theorem encChk_inj (a a' : Lst) (h : encChk a = encChk a') : a = a' := by
  simp only [encChk, encChk1] at h
  try simp [strs_inj, ents_inj, eEnt_iff, eLst_iff] at h
  grind

theorem unChk (l : Lst) : unenc encChk ([AV.agg [(vI l.target), (vI l.first), (vI l.breaks), AV.sl (List.map eEnt l.entries), (vB l.ended)]]) = some (l) := unenc_of encChk_inj (l) rfl

theorem unChkw (l_target : Int) (l_first : Int) (l_breaks : Int) (l_entries : List Ent) (l_ended : Bool) : unenc encChk ([AV.agg [(vI l_target), (vI l_first), (vI l_breaks), AV.sl (List.map eEnt l_entries), (vB l_ended)]]) = some ((Lst.mk l_target l_first l_breaks l_entries l_ended)) := unenc_of encChk_inj ((Lst.mk l_target l_first l_breaks l_entries l_ended)) rfl

def resChk1 (l : Lst) : AV × Heap := (vI (F.check l), [])

def preChk1 (l : Lst) : Bool := true

noncomputable def oChk : Orc := orc 8 true encChk (fun a => preChk1 a) fun a => resChk1 a

theorem okChk : OrcOK Tryz.prog noG oChk := by
  refine mk_ok Tryz.f8 (keep := false) (by kernel_rfl) (by kernel_rfl) enChk_ok mixed (one_loop (x0 := loopN Tryz.f8 0) (by kernel_rfl) (lpo_ok ?_)) (by first | exact fun _ _ => ⟨rfl, rfl⟩ | (intro h; cases h)) ?_
  · rintro ⟨l, k⟩ hp
    exact lpChk_ok l k hp
  rintro l hpre hok
  show (runF enChk false _ (encChk1 _)).val = some (resChk1 _)
  unfold encChk1 resChk1
  rw [evChk]
  have hx : l.entries.length ≤ 9223372036854775807 := by
    have h := okA_agg (hok _ (List.mem_cons_self ..))
    simp only [eLst, List.forall_mem_cons] at h
    simpa using (okA_sl h.2.2.2.1).1
  simp only [unOut, unEntF, unEntFw, preOut1, preEntF1, unstChk, unstChk0, prlChk, outChk, etaEnt, etaLst, Option.bind_some, List.length_map, unStrs, unInts, unBools, unEnts, unItms, unTrns, cond_true, cond_false, Bool.and_true, Bool.true_and, F.check, hx, List.drop_zero, Nat.zero_le, decide_true]
  simp only [Bool.cond_eq_ite]
  grind

end M

theorem F.fold_app {α : Type} : ∀ (l acc : List α), l.foldl (fun a y => a ++ [y]) acc = acc ++ l
  | [], acc => by simp
  | y :: l, acc => by rw [List.foldl_cons, F.fold_app l]; simp

def F.lenF (a : Int) (l : List Ent) : Int := l.foldl (fun a e => IntKind.i64.wrap (a + e.milli)) a

namespace M

theorem all_strs (xs : List ByteArray) : ((xs.map eStr).all fun r => Nat.beq (List.length r) 1) = true := by simp [eStr]

theorem all_ents (xs : List Ent) : ((xs.map eEnt).all fun r => Nat.beq (List.length r) 7) = true := by simp [eEnt]

theorem evCln0 : (runF en0 false Tryz.f88 [.nz true []]).val =
  some (AV.sl [], []) := by kernel_rfl

theorem evCln1 (xs : List ByteArray) : (runF en0 false Tryz.f88 [.nz false (xs.map eStr)]).val =
  bif Nat.ble (((0 : Nat) + List.length (List.map eStr xs)) * (16 : Nat)) (140737488355328 : Nat) && List.all (List.map eStr xs) fun (r : Row) => Nat.beq (List.length r)
  (TI.mk false (1 : Nat) [] [AV.e0] (9 : Nat) (1 : Nat) (16 : Nat) [(vS (ByteArray.mk (Array.mk [])))] none (4 : Nat) []).esize then some (AV.sl (List.map eStr xs), []) else
  none := by kernel_rfl

def encCln1 (xs : List ByteArray) : List AV := [.sl (xs.map eStr)]

def encCln (a : (List ByteArray)) : List AV := encCln1 a

theorem encCln_inj (a a' : (List ByteArray)) (h : encCln a = encCln a') : a = a' := by
  simp only [encCln, encCln1] at h
  try simp [strs_inj, ents_inj, eEnt_iff, eLst_iff] at h
  grind

theorem unCln (xs : List ByteArray) : unenc encCln ([AV.sl (List.map eStr xs)]) = some (xs) := unenc_of encCln_inj (xs) rfl

def resCln1 (xs : List ByteArray) : AV × Heap := (.sl (xs.map eStr), [])

def preCln1 (xs : List ByteArray) : Bool := decide (xs.length * 16 ≤ 140737488355328)

noncomputable def oCln : Orc := orc 88 false encCln (fun a => preCln1 a) fun a => resCln1 a

theorem okCln : OrcOK Tryz.prog noG oCln := by
  refine orc_ok ⟨Tryz.f88, by kernel_rfl, by kernel_rfl, by kernel_rfl⟩ (fun xs hp _ => ?_) (by intro h; cases h)
  simp only [preCln1, decide_eq_true_eq] at hp
  have hb : Nat.ble (xs.length * 16) 140737488355328 = true := ble_t (by omega)
  show SpecP _ _ _ [.sl (xs.map eStr)] (.sl (xs.map eStr)) []
  refine SpecP.nil (fun e => ?_) ?_
  · have : xs = [] := by simpa using e
    subst this
    exact runF_sound (E := en0) en0_ok mixed (fn := Tryz.f88) (by kernel_rfl) (no_loops (by kernel_rfl)) (keep := false) evCln0
  · refine runF_sound (E := en0) en0_ok mixed (fn := Tryz.f88) (by kernel_rfl) (no_loops (by kernel_rfl)) (keep := false) ?_
    rw [evCln1]
    simp only [List.length_map, Nat.zero_add, hb, all_strs, Bool.and_true, cond_true, List.nil_append]

noncomputable def enCpE : Env := envH ty noG lks [oCln] [] [] []

theorem enCpE_ok : EnvOK Tryz.prog enCpE := by
  refine envH_ok lks_ok ty_ok ?_ ?_
  · simp only [List.forall_mem_cons]
    exact ⟨okCln, by simp⟩
  · simp

theorem evCpE (e : Ent) : (runF enCpE false Tryz.f64 [.agg (eEnt e)]).val =
  Option.bind (unenc encCln [AV.sl (List.map eStr e.extra)]) fun (z : List ByteArray) => bif decide (List.length z * (16 : Nat) ≤ (140737488355328 : Nat)) then some (AV.agg
  [(vS e.uri), (vI e.milli), (vB e.brk), (vI e.date), (vS e.key), (vB e.gap), AV.sl (List.map eStr z)], []) else none := by kernel_rfl

def encCpE1 (e : Ent) : List AV := [.agg (eEnt e)]

def encCpE (a : Ent) : List AV := encCpE1 a

theorem encCpE_inj (a a' : Ent) (h : encCpE a = encCpE a') : a = a' := by
  simp only [encCpE, encCpE1] at h
  try simp [strs_inj, ents_inj, eEnt_iff, eLst_iff] at h
  grind

theorem unCpE (e : Ent) : unenc encCpE ([AV.agg [(vS e.uri), (vI e.milli), (vB e.brk), (vI e.date), (vS e.key), (vB e.gap), AV.sl (List.map eStr e.extra)]]) = some (e) := unenc_of encCpE_inj (e) rfl

theorem unCpEw (e_uri : ByteArray) (e_milli : Int) (e_brk : Bool) (e_date : Int) (e_key : ByteArray) (e_gap : Bool) (e_extra : List ByteArray) : unenc encCpE ([AV.agg [(vS e_uri), (vI e_milli), (vB e_brk), (vI e_date), (vS e_key), (vB e_gap), AV.sl (List.map eStr e_extra)]]) = some ((Ent.mk e_uri e_milli e_brk e_date e_key e_gap e_extra)) := unenc_of encCpE_inj ((Ent.mk e_uri e_milli e_brk e_date e_key e_gap e_extra)) rfl

def resCpE1 (e : Ent) : AV × Heap := (.agg (eEnt e), [])

def preCpE1 (e : Ent) : Bool := decide (e.extra.length * 16 ≤ 140737488355328)

noncomputable def oCpE : Orc := orc 64 false encCpE (fun a => preCpE1 a) fun a => resCpE1 a

theorem okCpE : OrcOK Tryz.prog noG oCpE := by
  refine mk_ok Tryz.f64 (keep := false) (by kernel_rfl) (by kernel_rfl) enCpE_ok mixed (no_loops (by kernel_rfl)) (by first | exact fun _ _ => ⟨rfl, rfl⟩ | (intro h; cases h)) ?_
  rintro e hpre hok
  show (runF enCpE false _ (encCpE1 _)).val = some (resCpE1 _)
  unfold encCpE1 resCpE1
  rw [evCpE]
  simp only [preCpE1] at hpre
  simp only [unCln, preCln1, etaEnt, etaLst, Option.bind_some, List.length_map, unStrs, unInts, unBools, unEnts, unItms, unTrns, cond_true, cond_false, Bool.and_true, Bool.true_and, hpre, eEnt]

def stLen (es : List Ent) (a : Int) (k : Nat) : St := ⟨[(9, vI k), (8, vI es.length), (7, .sl (es.map eEnt)), (3, vI a)], []⟩

def stLen1 (a : (List Ent) × Int × Nat) : St := stLen a.1 a.2.1 a.2.2

theorem stLen_inj (a a' : (List Ent) × Int × Nat) (h : stLen1 a = stLen1 a') : a = a' := by
  simp only [stLen1, stLen] at h
  try simp [strs_inj, ents_inj, eEnt_iff, eLst_iff] at h
  grind

theorem unstLen (es : List Ent) (a : Int) (k : Nat) : unenc stLen1 (St.mk [(9, (vI (↑k : Int))), (8, (vI (↑(List.length es) : Int))), (7, AV.sl (List.map eEnt es)), (3, (vI a))] []) = some (es, a, k) := unenc_of stLen_inj (es, a, k) rfl

theorem unstLen0 (es : List Ent)  : unenc stLen1 (St.mk [(9, (vI (0 : Int))), (8, (vI (↑(List.length es) : Int))), (7, AV.sl (List.map eEnt es)), (3, (vI (0 : Int)))] []) = some (es, 0, 0) := unenc_of stLen_inj (es, 0, 0) rfl

def outLen (es : List Ent) (a : Int) (k : Nat) : T (Ex × St) := .ret (.exit 0, ⟨[(3, vI (F.lenF a (es.drop k)))], []⟩)

noncomputable def prlLen (es : List Ent) (a : Int) (k : Nat) : Bool := decide (es.length ≤ 9223372036854775807) && decide (k ≤ es.length)

noncomputable def lpLen : Nat × (St → T (Ex × St)) := (3, lpo [9, 8, 7, 3] [] stLen1 (fun a => prlLen a.1 a.2.1 a.2.2) fun a => outLen a.1 a.2.1 a.2.2)

noncomputable def enLen : Env := envH ty noG lks [] [] [] [lpLen]

theorem enLen_ok : EnvOK Tryz.prog enLen := by
  refine envH_ok lks_ok ty_ok ?_ ?_
  · simp
  · simp

theorem evLenL (es : List Ent) (a : Int) (k : Nat) : ((exec enLen (loopN Tryz.f32 0) (stLen es a k)).bind (lessX ([9, 8, 7, 3], []) ([3], []) ([], []))).val =
  bif decide ((↑k : Int) < (↑(List.length es) : Int)) then Option.bind (unenc (List.map eEnt) (List.map eEnt es)) fun (z : List Ent) => bif decide (k < List.length z) then
  some (Ex.normal, St.mk [(9, (vI (IntKind.wrap IntKind.i64 ((↑k : Int) + (1 : Int))))), (8, (vI (↑(List.length es) : Int))), (7, AV.sl (List.map eEnt es)), (3, (vI
  (IntKind.wrap IntKind.i64 (a + (List.getD z k (Ent.mk (ByteArray.mk (Array.mk [])) (0 : Int) false (0 : Int) (ByteArray.mk (Array.mk [])) false [])).milli))))] []) else
  none else some (Ex.exit (0 : Nat), St.mk [(3, (vI a))] []) := by kernel_rfl

theorem lpLen_ok (es : List Ent) (a : Int) (k : Nat) (hp : prlLen es a k = true) : ∀ ex s', (outLen es a k).val = some (ex, s') → LoopOK enLen (loopN Tryz.f32 0) (stLen es a k) ex s' := by
  simp only [prlLen, Bool.and_eq_true, decide_eq_true_eq] at hp
  refine loop_fold (xs := es) (st := stLen es) (f := fun a e => IntKind.i64.wrap (a + e.milli)) (fin := fun a => (.exit 0, ⟨[(3, vI a)], []⟩)) (I := fun _ _ => True) (n := ([9, 8, 7, 3], [])) (e := ([3], [])) (r := ([], [])) ?_ (fun _ => ⟨by simp, rfl⟩) (fun _ _ => rfl) ?_ a k hp.2 trivial
  · intro a _
    rw [evLenL]; simp
  · intro a k y hy _
    have hlt := lt_at hy
    rw [evLenL]
    simp only [unstLen, unstLen0, prlLen, outLen, etaEnt, etaLst, Option.bind_some, List.length_map, unStrs, unInts, unBools, unEnts, unItms, unTrns, cond_true, cond_false, Bool.and_true, Bool.true_and, cast_lt hlt, decide_eq_true hlt, next_at hlt hp.1, getD_at hy, stLen, eEnt]
    simp

theorem lst_len {l : Lst} (h : OkA (.agg (eLst l))) : l.entries.length ≤ 9223372036854775807 := by
  have h := okA_agg h
  simp only [eLst, List.forall_mem_cons] at h
  simpa using (okA_sl h.2.2.2.1).1

theorem evLen (l : Lst) : (runF enLen false Tryz.f32 [.agg (eLst l)]).val =
  Option.bind (unenc stLen1 (St.mk [(9, (vI (0 : Int))), (8, (vI (↑(List.length (List.map eEnt l.entries)) : Int))), (7, AV.sl (List.map eEnt l.entries)), (3, (vI (0 :
  Int)))] [])) fun (z : List Ent × Int × Nat) => bif decide (List.length z.fst ≤ (9223372036854775807 : Nat)) && decide (z.snd.snd ≤ List.length z.fst) && true then some
  ((vI (F.lenF z.snd.fst (List.drop z.snd.snd z.fst))), []) else none := by kernel_rfl

def encLen1 (l : Lst) : List AV := [.agg (eLst l)]

def encLen (a : Lst) : List AV := encLen1 a

theorem encLen_inj (a a' : Lst) (h : encLen a = encLen a') : a = a' := by
  simp only [encLen, encLen1] at h
  try simp [strs_inj, ents_inj, eEnt_iff, eLst_iff] at h
  grind

theorem unLen (l : Lst) : unenc encLen ([AV.agg [(vI l.target), (vI l.first), (vI l.breaks), AV.sl (List.map eEnt l.entries), (vB l.ended)]]) = some (l) := unenc_of encLen_inj (l) rfl

theorem unLenw (l_target : Int) (l_first : Int) (l_breaks : Int) (l_entries : List Ent) (l_ended : Bool) : unenc encLen ([AV.agg [(vI l_target), (vI l_first), (vI l_breaks), AV.sl (List.map eEnt l_entries), (vB l_ended)]]) = some ((Lst.mk l_target l_first l_breaks l_entries l_ended)) := unenc_of encLen_inj ((Lst.mk l_target l_first l_breaks l_entries l_ended)) rfl

def resLen1 (l : Lst) : AV × Heap := (vI (F.lenF 0 l.entries), [])

def preLen1 (l : Lst) : Bool := true

noncomputable def oLen : Orc := orc 32 true encLen (fun a => preLen1 a) fun a => resLen1 a

theorem okLen : OrcOK Tryz.prog noG oLen := by
  refine mk_ok Tryz.f32 (keep := false) (by kernel_rfl) (by kernel_rfl) enLen_ok mixed (one_loop (x0 := loopN Tryz.f32 0) (by kernel_rfl) (lpo_ok ?_)) (by first | exact fun _ _ => ⟨rfl, rfl⟩ | (intro h; cases h)) ?_
  · rintro ⟨es, a, k⟩ hp
    exact lpLen_ok es a k hp
  rintro l hpre hok
  show (runF enLen false _ (encLen1 _)).val = some (resLen1 _)
  unfold encLen1 resLen1
  rw [evLen]
  have hx := lst_len (hok _ (List.mem_cons_self ..))
  simp only [unstLen, unstLen0, prlLen, outLen, etaEnt, etaLst, Option.bind_some, List.length_map, unStrs, unInts, unBools, unEnts, unItms, unTrns, cond_true, cond_false, Bool.and_true, Bool.true_and, hx, List.drop_zero, Nat.zero_le, decide_true]

def stCpL (l : Lst) (acc : List Ent) (k : Nat) : St := ⟨[(9, vI k), (8, vI l.entries.length), (7, .sl (l.entries.map eEnt)), (3, .own 3), (2, .ptr 2 0 0), (1, .ptr 1 0 0)], [(3, ⟨false, 50, 7, acc.map eEnt⟩), (2, ⟨true, 0, 0, [[vI 0, vI 0, vI 0, .e0, vB false]]⟩), (1, ⟨true, 0, 0, [eLst l]⟩)]⟩

def stCpL1 (a : Lst × (List Ent) × Nat) : St := stCpL a.1 a.2.1 a.2.2

theorem stCpL_inj (a a' : Lst × (List Ent) × Nat) (h : stCpL1 a = stCpL1 a') : a = a' := by
  simp only [stCpL1, stCpL] at h
  try simp [strs_inj, ents_inj, eEnt_iff, eLst_iff] at h
  grind

theorem unstCpL (l : Lst) (acc : List Ent) (k : Nat) : unenc stCpL1 (St.mk [(9, (vI (↑k : Int))), (8, (vI (↑(List.length l.entries) : Int))), (7, AV.sl (List.map eEnt l.entries)), (3, .own 3), (2, .ptr 2 0 0), (1, .ptr 1 0 0)] [(3, Blk.mk
  false 50 7 (List.map eEnt acc)), (2, Blk.mk true 0 0 [[(vI (0 : Int)), (vI (0 : Int)), (vI (0 : Int)), AV.e0, (vB false)]]), (1, Blk.mk true 0 0 [[(vI l.target), (vI
  l.first), (vI l.breaks), AV.sl (List.map eEnt l.entries), (vB l.ended)]])]) = some (l, acc, k) := unenc_of stCpL_inj (l, acc, k) rfl

theorem unstCpL0 (l : Lst)  : unenc stCpL1 (St.mk [(9, (vI (0 : Int))), (8, (vI (↑(List.length l.entries) : Int))), (7, AV.sl (List.map eEnt l.entries)), (3, .own 3), (2, .ptr 2 0 0), (1, .ptr 1 0 0)] [(3, Blk.mk
  false 50 7 []), (2, Blk.mk true 0 0 [[(vI (0 : Int)), (vI (0 : Int)), (vI (0 : Int)), AV.e0, (vB false)]]), (1, Blk.mk true 0 0 [[(vI l.target), (vI l.first), (vI
  l.breaks), AV.sl (List.map eEnt l.entries), (vB l.ended)]])]) = some (l, [], 0) := unenc_of stCpL_inj (l, [], 0) rfl

def outCpL (l : Lst) (acc : List Ent) (k : Nat) : T (Ex × St) := .ret (.exit 0, ⟨[(3, .own 3), (2, .ptr 2 0 0), (1, .ptr 1 0 0)], [(3, ⟨false, 50, 7, (acc ++ l.entries.drop k).map eEnt⟩), (2, ⟨true, 0, 0, [[vI 0, vI 0, vI 0, .e0, vB false]]⟩), (1, ⟨true, 0, 0, [eLst l]⟩)]⟩)

noncomputable def prlCpL (l : Lst) (acc : List Ent) (k : Nat) : Bool := decide (l.entries.length * 88 ≤ 140737488355328) && decide (k ≤ l.entries.length) && decide (acc.length = k) && l.entries.all (fun e => decide (e.extra.length * 16 ≤ 140737488355328))

noncomputable def lpCpL : Nat × (St → T (Ex × St)) := (3, lpo [9, 8, 7, 3, 2, 1] [3, 2, 1] stCpL1 (fun a => prlCpL a.1 a.2.1 a.2.2) fun a => outCpL a.1 a.2.1 a.2.2)

noncomputable def enCpL : Env := envH ty noG lks [oCpE] [] [] [lpCpL]

theorem enCpL_ok : EnvOK Tryz.prog enCpL := by
  refine envH_ok lks_ok ty_ok ?_ ?_
  · simp only [List.forall_mem_cons]
    exact ⟨okCpE, by simp⟩
  · simp

theorem evCpLL (l : Lst) (acc : List Ent) (k : Nat) : ((exec enCpL (loopN Tryz.f36 0) (stCpL l acc k)).bind (lessX ([9, 8, 7, 3, 2, 1], [3, 2, 1]) ([3, 2, 1], [3, 2, 1]) ([], []))).val =
  (fun (q : Ent) => (fun (q_1 : List (Nat × AV)) => (fun (q_2 : List (Nat × Blk)) => bif decide ((↑k : Int) < (↑(List.length l.entries) : Int)) then Option.bind (unenc
  (List.map eEnt) (List.map eEnt l.entries)) fun (z : List Ent) => bif decide (k < List.length z) then Option.bind (unenc encCpE [AV.agg [(vS (List.getD z k q).uri), (vI
  (List.getD z k q).milli), (vB (List.getD z k q).brk), (vI (List.getD z k q).date), (vS (List.getD z k q).key), (vB (List.getD z k q).gap), AV.sl (List.map eStr (List.getD
  z k q).extra)]]) fun (z : Ent) => bif decide (List.length z.extra * (16 : Nat) ≤ (140737488355328 : Nat)) then bif Nat.ble ((List.length (List.map eEnt acc) + (1 : Nat)) *
  (88 : Nat)) (140737488355328 : Nat) && true then some (Ex.normal, St.mk ((9, (vI (IntKind.wrap IntKind.i64 ((↑k : Int) + (1 : Int))))) :: (8, (vI (↑(List.length l.entries)
  : Int))) :: (7, AV.sl (List.map eEnt l.entries)) :: q_1) ((3, Blk.mk false 50 7 (List.map eEnt acc ++ [[(vS z.uri), (vI z.milli), (vB z.brk), (vI z.date), (vS z.key), (vB
  z.gap), AV.sl (List.map eStr z.extra)]])) :: q_2)) else none else none else none else some (Ex.exit (0 : Nat), St.mk q_1 ((3, Blk.mk false 50 7 (List.map eEnt acc)) ::
  q_2))) [(2, Blk.mk true 0 0 [[(vI (0 : Int)), (vI (0 : Int)), (vI (0 : Int)), AV.e0, (vB false)]]), (1, Blk.mk true 0 0 [[(vI l.target), (vI l.first), (vI l.breaks), AV.sl
  (List.map eEnt l.entries), (vB l.ended)]])]) [(3, .own 3), (2, .ptr 2 0 0), (1, .ptr 1 0 0)]) (Ent.mk (ByteArray.mk (Array.mk [])) (0 : Int) false (0 : Int) (ByteArray.mk
  (Array.mk [])) false []) := by kernel_rfl

theorem lpCpL_ok (l : Lst) (acc : List Ent) (k : Nat) (hp : prlCpL l acc k = true) : ∀ ex s', (outCpL l acc k).val = some (ex, s') → LoopOK enCpL (loopN Tryz.f36 0) (stCpL l acc k) ex s' := by
  simp only [prlCpL, Bool.and_eq_true, decide_eq_true_eq] at hp
  obtain ⟨⟨⟨h1, h2⟩, h3⟩, h4⟩ := hp
  intro ex s' hh
  refine loop_fold (xs := l.entries) (st := stCpL l) (f := fun a y => a ++ [y]) (fin := fun a => (.exit 0, ⟨[(3, .own 3), (2, .ptr 2 0 0), (1, .ptr 1 0 0)], [(3, ⟨false, 50, 7, a.map eEnt⟩), (2, ⟨true, 0, 0, [[vI 0, vI 0, vI 0, .e0, vB false]]⟩), (1, ⟨true, 0, 0, [eLst l]⟩)]⟩)) (I := fun a k => a.length = k) (n := ([9, 8, 7, 3, 2, 1], [3, 2, 1])) (e := ([3, 2, 1], [3, 2, 1])) (r := ([], [])) ?_ (fun _ => ⟨by simp, rfl⟩) (fun _ _ => rfl) ?_ acc k h2 h3 ex s' (by rw [F.fold_app]; exact hh)
  · intro a _
    rw [evCpLL]; simp [eLst]
  · intro a k y hy hI
    have hlt := lt_at hy
    have he : decide (y.extra.length * 16 ≤ 140737488355328) = true := by
      have := List.all_eq_true.1 h4 y (List.mem_of_getElem? hy)
      exact this
    refine ⟨?_, by simp [hI]⟩
    rw [evCpLL]
    simp only [unCpE, unCpEw, preCpE1, unstCpL, unstCpL0, prlCpL, outCpL, etaEnt, etaLst, Option.bind_some, List.length_map, unStrs, unInts, unBools, unEnts, unItms, unTrns, cond_true, cond_false, Bool.and_true, Bool.true_and, cast_lt hlt, decide_eq_true hlt, next_at hlt (by omega : l.entries.length ≤ 9223372036854775807), getD_at hy, stCpL, eEnt, eLst, he]
    have hb : Nat.ble ((a.length + 1) * 88) 140737488355328 = true := ble_t (by omega)
    simp [hb, eEnt]

theorem evCpL (l : Lst) : (runF enCpL true Tryz.f36 [.agg (eLst l)]).val =
  Option.bind (unenc stCpL1 (St.mk [(9, (vI (0 : Int))), (8, (vI (↑(List.length (List.map eEnt l.entries)) : Int))), (7, AV.sl (List.map eEnt l.entries)), (3, .own 3), (2,
  .ptr 2 0 0), (1, .ptr 1 0 0)] [(3, Blk.mk false 50 7 []), (2, Blk.mk true 0 0 [[(vI (0 : Int)), (vI (0 : Int)), (vI (0 : Int)), AV.e0, (vB false)]]), (1, Blk.mk true 0 0
  [[(vI l.target), (vI l.first), (vI l.breaks), AV.sl (List.map eEnt l.entries), (vB l.ended)]])])) fun (z : Lst × List Ent × Nat) => bif (decide (List.length z.fst.entries
  * (88 : Nat) ≤ (140737488355328 : Nat)) && decide (z.snd.snd ≤ List.length z.fst.entries) && decide (List.length z.snd.fst = z.snd.snd) && List.all z.fst.entries fun (e :
  Ent) => decide (List.length e.extra * (16 : Nat) ≤ (140737488355328 : Nat))) && true then some (AV.agg [(vI z.fst.target), (vI z.fst.first), (vI z.fst.breaks), .own 0, (vB
  z.fst.ended)], [(0, Blk.mk false 50 7 (List.map eEnt (z.snd.fst ++ List.drop z.snd.snd z.fst.entries)))]) else none := by kernel_rfl

def encCpL1 (l : Lst) : List AV := [.agg (eLst l)]

def encCpL (a : Lst) : List AV := encCpL1 a

theorem encCpL_inj (a a' : Lst) (h : encCpL a = encCpL a') : a = a' := by
  simp only [encCpL, encCpL1] at h
  try simp [strs_inj, ents_inj, eEnt_iff, eLst_iff] at h
  grind

theorem unCpL (l : Lst) : unenc encCpL ([AV.agg [(vI l.target), (vI l.first), (vI l.breaks), AV.sl (List.map eEnt l.entries), (vB l.ended)]]) = some (l) := unenc_of encCpL_inj (l) rfl

theorem unCpLw (l_target : Int) (l_first : Int) (l_breaks : Int) (l_entries : List Ent) (l_ended : Bool) : unenc encCpL ([AV.agg [(vI l_target), (vI l_first), (vI l_breaks), AV.sl (List.map eEnt l_entries), (vB l_ended)]]) = some ((Lst.mk l_target l_first l_breaks l_entries l_ended)) := unenc_of encCpL_inj ((Lst.mk l_target l_first l_breaks l_entries l_ended)) rfl

def resCpL1 (l : Lst) : AV × Heap := (.agg [vI l.target, vI l.first, vI l.breaks, .own 0, vB l.ended], [(0, ⟨false, 50, 7, l.entries.map eEnt⟩)])

def preCpL1 (l : Lst) : Bool := decide (l.entries.length * 88 ≤ 140737488355328) && l.entries.all (fun e => decide (e.extra.length * 16 ≤ 140737488355328))

noncomputable def oCpL : Orc := orc 36 false encCpL (fun a => preCpL1 a) fun a => resCpL1 a

theorem okCpL : OrcOK Tryz.prog noG oCpL := by
  refine mk_ok Tryz.f36 (keep := true) (by kernel_rfl) (by kernel_rfl) enCpL_ok mixed (one_loop (x0 := loopN Tryz.f36 0) (by kernel_rfl) (lpo_ok ?_)) (by first | exact fun _ _ => ⟨rfl, rfl⟩ | (intro h; cases h)) ?_
  · rintro ⟨l, acc, k⟩ hp
    exact lpCpL_ok l acc k hp
  rintro l hpre hok
  show (runF enCpL true _ (encCpL1 _)).val = some (resCpL1 _)
  unfold encCpL1 resCpL1
  rw [evCpL]
  simp only [preCpL1, Bool.and_eq_true, decide_eq_true_eq] at hpre
  obtain ⟨h1, h2⟩ := hpre
  simp only [unCpE, unCpEw, preCpE1, unstCpL, unstCpL0, prlCpL, outCpL, etaEnt, etaLst, Option.bind_some, List.length_map, unStrs, unInts, unBools, unEnts, unItms, unTrns, cond_true, cond_false, Bool.and_true, Bool.true_and, h1, h2, List.drop_zero, Nat.zero_le, decide_true, List.nil_append, List.length_nil, List.map_nil]

end M

def F.sameSs (l : List (ByteArray × ByteArray)) : Bool := l.all fun p => F.seq p.1 p.2

def F.sameE (a b : Ent) : Bool := F.seq a.uri b.uri && (a.milli == b.milli) && (a.brk == b.brk) && (a.date == b.date) && F.seq a.key b.key && (a.gap == b.gap) && decide (a.extra.length = b.extra.length) && F.sameSs (a.extra.zip b.extra)

def F.sameEs (l : List (Ent × Ent)) : Bool := l.all fun p => F.sameE p.1 p.2

def F.sameL (a b : Lst) : Bool := (a.target == b.target) && (a.first == b.first) && (a.breaks == b.breaks) && (a.ended == b.ended) && decide (a.entries.length = b.entries.length) && F.sameEs (a.entries.zip b.entries)

theorem F.seq_refl (s : ByteArray) : F.seq s s = true := by simp [F.seq]

theorem F.zip_all {α : Type} (p : α → α → Bool) (h : ∀ a, p a a = true) : ∀ l : List α, ((l.zip l).all fun q => p q.1 q.2) = true
  | [] => rfl
  | y :: l => by simp only [List.zip_cons_cons, List.all_cons, h, Bool.true_and]; exact F.zip_all p h l

theorem F.sameE_refl (a : Ent) : F.sameE a a = true := by
  simp only [F.sameE, F.seq_refl, F.sameSs, F.zip_all F.seq F.seq_refl]
  simp

theorem F.sameL_refl (a : Lst) : F.sameL a a = true := by
  simp only [F.sameL, F.sameEs, F.zip_all F.sameE F.sameE_refl]
  simp

theorem F.zip_at {α β : Type} {a : List α} {b : List β} {k : Nat} {y : α × β} (h : (a.zip b)[k]? = some y) : a[k]? = some y.1 ∧ b[k]? = some y.2 := by
  rw [List.getElem?_zip_eq_some] at h
  exact h

theorem F.cond_tl (c x : Bool) : (bif c then true else x) = (c || x) := by cases c <;> rfl

theorem F.len_eq (n m : Nat) : ((n : Int) == (m : Int)) = decide (n = m) := by by_cases h : n = m <;> simp [h]; omega

namespace M

def stSmE (a : Ent) (b : Ent) (k : Nat) : St := ⟨[(5, vI k), (3, .ptr 3 0 0), (2, .ptr 2 0 0)], [(3, ⟨true, 0, 0, [eEnt b]⟩), (2, ⟨true, 0, 0, [eEnt a]⟩)]⟩

def stSmE1 (a : Ent × Ent × Nat) : St := stSmE a.1 a.2.1 a.2.2

theorem stSmE_inj (a a' : Ent × Ent × Nat) (h : stSmE1 a = stSmE1 a') : a = a' := by
  simp only [stSmE1, stSmE] at h
  try simp [strs_inj, ents_inj, eEnt_iff, eLst_iff] at h
  grind

theorem unstSmE (a : Ent) (b : Ent) (k : Nat) : unenc stSmE1 (St.mk [(5, (vI (↑k : Int))), (3, .ptr 3 0 0), (2, .ptr 2 0 0)] [(3, Blk.mk true 0 0 [[(vS b.uri), (vI b.milli), (vB b.brk), (vI b.date), (vS b.key), (vB b.gap), AV.sl
  (List.map eStr b.extra)]]), (2, Blk.mk true 0 0 [[(vS a.uri), (vI a.milli), (vB a.brk), (vI a.date), (vS a.key), (vB a.gap), AV.sl (List.map eStr a.extra)]])]) = some (a, b, k) := unenc_of stSmE_inj (a, b, k) rfl

theorem unstSmE0 (a : Ent) (b : Ent)  : unenc stSmE1 (St.mk [(5, (vI (0 : Int))), (3, .ptr 3 0 0), (2, .ptr 2 0 0)] [(3, Blk.mk true 0 0 [[(vS b.uri), (vI b.milli), (vB b.brk), (vI b.date), (vS b.key), (vB b.gap), AV.sl
  (List.map eStr b.extra)]]), (2, Blk.mk true 0 0 [[(vS a.uri), (vI a.milli), (vB a.brk), (vI a.date), (vS a.key), (vB a.gap), AV.sl (List.map eStr a.extra)]])]) = some (a, b, 0) := unenc_of stSmE_inj (a, b, 0) rfl

def outSmE (a : Ent) (b : Ent) (k : Nat) : T (Ex × St) := .ifB (F.sameSs ((a.extra.zip b.extra).drop k)) (.ret (.exit 0, ⟨[], []⟩)) (.ret (.ret, ⟨[(4, vB false)], []⟩))

noncomputable def prlSmE (a : Ent) (b : Ent) (k : Nat) : Bool := decide (a.extra.length ≤ 9223372036854775807) && decide (k ≤ a.extra.length) && decide (a.extra.length = b.extra.length)

noncomputable def lpSmE : Nat × (St → T (Ex × St)) := (4, lpo [5, 3, 2] [3, 2] stSmE1 (fun a => prlSmE a.1 a.2.1 a.2.2) fun a => outSmE a.1 a.2.1 a.2.2)

noncomputable def enSmE : Env := envH ty noG lks [] [] [] [lpSmE]

theorem enSmE_ok : EnvOK Tryz.prog enSmE := by
  refine envH_ok lks_ok ty_ok ?_ ?_
  · simp
  · simp

theorem evSmEL (a : Ent) (b : Ent) (k : Nat) : ((exec enSmE (loopN Tryz.f38 0) (stSmE a b k)).bind (lessX ([5, 3, 2], [3, 2]) ([], []) ([4], []))).val =
  bif decide ((↑k : Int) < (↑(List.length (List.map eStr a.extra)) : Int)) then Option.bind (unenc (List.map eStr) (List.map eStr a.extra)) fun (z : List ByteArray) => bif
  decide (k < List.length z) then Option.bind (unenc (List.map eStr) (List.map eStr b.extra)) fun (z_1 : List ByteArray) => bif decide (k < List.length z_1) then bif
  !ByteArray.toList (List.getD z k (ByteArray.mk (Array.mk []))) == ByteArray.toList (List.getD z_1 k (ByteArray.mk (Array.mk []))) then some (Ex.ret, St.mk [(4, (vB
  false))] []) else some (Ex.normal, St.mk [(5, (vI (IntKind.wrap IntKind.i64 ((↑k : Int) + (1 : Int))))), (3, .ptr 3 0 0), (2, .ptr 2 0 0)] [(3, Blk.mk true 0 0 [[(vS
  b.uri), (vI b.milli), (vB b.brk), (vI b.date), (vS b.key), (vB b.gap), AV.sl (List.map eStr b.extra)]]), (2, Blk.mk true 0 0 [[(vS a.uri), (vI a.milli), (vB a.brk), (vI
  a.date), (vS a.key), (vB a.gap), AV.sl (List.map eStr a.extra)]])]) else none else none else some (Ex.exit (0 : Nat), St.mk [] []) := by kernel_rfl

theorem lpSmE_ok (a : Ent) (b : Ent) (k : Nat) (hp : prlSmE a b k = true) : ∀ ex s', (outSmE a b k).val = some (ex, s') → LoopOK enSmE (loopN Tryz.f38 0) (stSmE a b k) ex s' := by
  simp only [prlSmE, Bool.and_eq_true, decide_eq_true_eq] at hp
  obtain ⟨⟨h1, h2⟩, h3⟩ := hp
  have hz : (a.extra.zip b.extra).length = a.extra.length := by rw [List.length_zip]; omega
  refine loop_all (xs := a.extra.zip b.extra) (st := stSmE a b) (p := fun p => F.seq p.1 p.2) (n := ([5, 3, 2], [3, 2])) (e := ([], [])) (r := ([4], [])) ?_ ⟨by simp, rfl⟩ ⟨by simp, rfl⟩ (fun _ => rfl) ?_ k (by omega)
  · rw [hz]; rw [evSmEL]; simp
  · intro k y hy
    obtain ⟨ha, hb⟩ := F.zip_at hy
    have hlt := lt_at ha
    have hlt' := lt_at hb
    rw [evSmEL]
    simp only [unstSmE, unstSmE0, prlSmE, outSmE, etaEnt, etaLst, Option.bind_some, List.length_map, unStrs, unInts, unBools, unEnts, unItms, unTrns, cond_true, cond_false, Bool.and_true, Bool.true_and, cast_lt hlt, decide_eq_true hlt, decide_eq_true hlt', next_at hlt h1, getD_at ha, getD_at hb, stSmE, eEnt, F.seq]
    simp only [Bool.cond_eq_ite]
    grind

theorem evSmE (a : Ent) (b : Ent) : (runF enSmE false Tryz.f38 [.agg (eEnt a), .agg (eEnt b)]).val =
  bif bif bif bif bif bif bif !ByteArray.toList a.uri == ByteArray.toList b.uri then true else a.milli != b.milli then true else !a.brk == b.brk then true else a.date !=
  b.date then true else !ByteArray.toList a.key == ByteArray.toList b.key then true else !a.gap == b.gap then true else (↑(List.length (List.map eStr a.extra)) : Int) !=
  (↑(List.length (List.map eStr b.extra)) : Int) then some ((vB false), []) else Option.bind (unenc stSmE1 (St.mk [(5, (vI (0 : Int))), (3, .ptr 3 0 0), (2, .ptr 2 0 0)]
  [(3, Blk.mk true 0 0 [[(vS b.uri), (vI b.milli), (vB b.brk), (vI b.date), (vS b.key), (vB b.gap), AV.sl (List.map eStr b.extra)]]), (2, Blk.mk true 0 0 [[(vS a.uri), (vI
  a.milli), (vB a.brk), (vI a.date), (vS a.key), (vB a.gap), AV.sl (List.map eStr a.extra)]])])) fun (z : Ent × Ent × Nat) => bif decide (List.length z.fst.extra ≤
  (9223372036854775807 : Nat)) && decide (z.snd.snd ≤ List.length z.fst.extra) && decide (List.length z.fst.extra = List.length z.snd.fst.extra) && true then bif F.sameSs
  (List.drop z.snd.snd (List.zip z.fst.extra z.snd.fst.extra)) then some ((vB true), []) else some ((vB false), []) else none := by kernel_rfl

def encSmE1 (a : Ent) (b : Ent) : List AV := [.agg (eEnt a), .agg (eEnt b)]

def encSmE (a : Ent × Ent) : List AV := encSmE1 a.1 a.2

theorem encSmE_inj (a a' : Ent × Ent) (h : encSmE a = encSmE a') : a = a' := by
  simp only [encSmE, encSmE1] at h
  try simp [strs_inj, ents_inj, eEnt_iff, eLst_iff] at h
  grind

theorem unSmE (a : Ent) (b : Ent) : unenc encSmE ([AV.agg [(vS a.uri), (vI a.milli), (vB a.brk), (vI a.date), (vS a.key), (vB a.gap), AV.sl (List.map eStr a.extra)], AV.agg [(vS b.uri), (vI b.milli), (vB b.brk), (vI
  b.date), (vS b.key), (vB b.gap), AV.sl (List.map eStr b.extra)]]) = some (a, b) := unenc_of encSmE_inj (a, b) rfl

theorem unSmEw (a_uri : ByteArray) (a_milli : Int) (a_brk : Bool) (a_date : Int) (a_key : ByteArray) (a_gap : Bool) (a_extra : List ByteArray) (b_uri : ByteArray) (b_milli : Int) (b_brk : Bool) (b_date : Int) (b_key : ByteArray) (b_gap : Bool) (b_extra : List ByteArray) : unenc encSmE ([AV.agg [(vS a_uri), (vI a_milli), (vB a_brk), (vI a_date), (vS a_key), (vB a_gap), AV.sl (List.map eStr a_extra)], AV.agg [(vS b_uri), (vI b_milli), (vB b_brk), (vI
  b_date), (vS b_key), (vB b_gap), AV.sl (List.map eStr b_extra)]]) = some ((Ent.mk a_uri a_milli a_brk a_date a_key a_gap a_extra), (Ent.mk b_uri b_milli b_brk b_date b_key b_gap b_extra)) := unenc_of encSmE_inj ((Ent.mk a_uri a_milli a_brk a_date a_key a_gap a_extra), (Ent.mk b_uri b_milli b_brk b_date b_key b_gap b_extra)) rfl

def resSmE1 (a : Ent) (b : Ent) : AV × Heap := (vB (F.sameE a b), [])

def preSmE1 (a : Ent) (b : Ent) : Bool := true

noncomputable def oSmE : Orc := orc 38 true encSmE (fun a => preSmE1 a.1 a.2) fun a => resSmE1 a.1 a.2

theorem okSmE : OrcOK Tryz.prog noG oSmE := by
  refine mk_ok Tryz.f38 (keep := false) (by kernel_rfl) (by kernel_rfl) enSmE_ok mixed (one_loop (x0 := loopN Tryz.f38 0) (by kernel_rfl) (lpo_ok ?_)) (by first | exact fun _ _ => ⟨rfl, rfl⟩ | (intro h; cases h)) ?_
  · rintro ⟨a, b, k⟩ hp
    exact lpSmE_ok a b k hp
  rintro ⟨a, b⟩ hpre hok
  show (runF enSmE false _ (encSmE1 _ _)).val = some (resSmE1 _ _)
  unfold encSmE1 resSmE1
  rw [evSmE]
  obtain ⟨hm, hx, _⟩ := ent_bounds (hok _ (List.mem_cons_self ..))
  simp only [unstSmE, unstSmE0, prlSmE, outSmE, etaEnt, etaLst, Option.bind_some, List.length_map, unStrs, unInts, unBools, unEnts, unItms, unTrns, cond_true, cond_false, Bool.and_true, Bool.true_and, F.sameE, F.seq, hx, List.drop_zero, Nat.zero_le, decide_true, F.cond_tl, F.len_eq, bne]
  cases a.uri.toList == b.uri.toList <;> cases a.milli == b.milli <;> cases a.brk == b.brk <;> cases a.date == b.date <;> cases a.key.toList == b.key.toList <;> cases a.gap == b.gap <;> try simp
  cases h : decide (a.extra.length = b.extra.length) <;> cases F.sameSs (a.extra.zip b.extra) <;> simp_all

def stSmL (a : Lst) (b : Lst) (k : Nat) : St := ⟨[(5, vI k), (3, .ptr 3 0 0), (2, .ptr 2 0 0)], [(3, ⟨true, 0, 0, [eLst b]⟩), (2, ⟨true, 0, 0, [eLst a]⟩)]⟩

def stSmL1 (a : Lst × Lst × Nat) : St := stSmL a.1 a.2.1 a.2.2

theorem stSmL_inj (a a' : Lst × Lst × Nat) (h : stSmL1 a = stSmL1 a') : a = a' := by
  simp only [stSmL1, stSmL] at h
  try simp [strs_inj, ents_inj, eEnt_iff, eLst_iff] at h
  grind

theorem unstSmL (a : Lst) (b : Lst) (k : Nat) : unenc stSmL1 (St.mk [(5, (vI (↑k : Int))), (3, .ptr 3 0 0), (2, .ptr 2 0 0)] [(3, Blk.mk true 0 0 [[(vI b.target), (vI b.first), (vI b.breaks), AV.sl (List.map eEnt b.entries), (vB
  b.ended)]]), (2, Blk.mk true 0 0 [[(vI a.target), (vI a.first), (vI a.breaks), AV.sl (List.map eEnt a.entries), (vB a.ended)]])]) = some (a, b, k) := unenc_of stSmL_inj (a, b, k) rfl

theorem unstSmL0 (a : Lst) (b : Lst)  : unenc stSmL1 (St.mk [(5, (vI (0 : Int))), (3, .ptr 3 0 0), (2, .ptr 2 0 0)] [(3, Blk.mk true 0 0 [[(vI b.target), (vI b.first), (vI b.breaks), AV.sl (List.map eEnt b.entries), (vB
  b.ended)]]), (2, Blk.mk true 0 0 [[(vI a.target), (vI a.first), (vI a.breaks), AV.sl (List.map eEnt a.entries), (vB a.ended)]])]) = some (a, b, 0) := unenc_of stSmL_inj (a, b, 0) rfl

def outSmL (a : Lst) (b : Lst) (k : Nat) : T (Ex × St) := .ifB (F.sameEs ((a.entries.zip b.entries).drop k)) (.ret (.exit 0, ⟨[], []⟩)) (.ret (.ret, ⟨[(4, vB false)], []⟩))

noncomputable def prlSmL (a : Lst) (b : Lst) (k : Nat) : Bool := decide (a.entries.length ≤ 9223372036854775807) && decide (k ≤ a.entries.length) && decide (a.entries.length = b.entries.length)

noncomputable def lpSmL : Nat × (St → T (Ex × St)) := (4, lpo [5, 3, 2] [3, 2] stSmL1 (fun a => prlSmL a.1 a.2.1 a.2.2) fun a => outSmL a.1 a.2.1 a.2.2)

noncomputable def enSmL : Env := envH ty noG lks [oSmE] [] [] [lpSmL]

theorem enSmL_ok : EnvOK Tryz.prog enSmL := by
  refine envH_ok lks_ok ty_ok ?_ ?_
  · simp only [List.forall_mem_cons]
    exact ⟨okSmE, by simp⟩
  · simp

theorem evSmLL (a : Lst) (b : Lst) (k : Nat) : ((exec enSmL (loopN Tryz.f18 0) (stSmL a b k)).bind (lessX ([5, 3, 2], [3, 2]) ([], []) ([4], []))).val =
  (fun (q : Ent) => bif decide ((↑k : Int) < (↑(List.length (List.map eEnt a.entries)) : Int)) then Option.bind (unenc (List.map eEnt) (List.map eEnt a.entries)) fun (z :
  List Ent) => bif decide (k < List.length z) then Option.bind (unenc (List.map eEnt) (List.map eEnt b.entries)) fun (z_1 : List Ent) => bif decide (k < List.length z_1)
  then Option.bind (unenc encSmE [AV.agg [(vS (List.getD z k q).uri), (vI (List.getD z k q).milli), (vB (List.getD z k q).brk), (vI (List.getD z k q).date), (vS (List.getD z
  k q).key), (vB (List.getD z k q).gap), AV.sl (List.map eStr (List.getD z k q).extra)], AV.agg [(vS (List.getD z_1 k q).uri), (vI (List.getD z_1 k q).milli), (vB (List.getD
  z_1 k q).brk), (vI (List.getD z_1 k q).date), (vS (List.getD z_1 k q).key), (vB (List.getD z_1 k q).gap), AV.sl (List.map eStr (List.getD z_1 k q).extra)]]) fun (z : Ent ×
  Ent) => bif !F.sameE z.fst z.snd then some (Ex.ret, St.mk [(4, (vB false))] []) else some (Ex.normal, St.mk [(5, (vI (IntKind.wrap IntKind.i64 ((↑k : Int) + (1 : Int))))),
  (3, .ptr 3 0 0), (2, .ptr 2 0 0)] [(3, Blk.mk true 0 0 [[(vI b.target), (vI b.first), (vI b.breaks), AV.sl (List.map eEnt b.entries), (vB b.ended)]]), (2, Blk.mk true 0 0
  [[(vI a.target), (vI a.first), (vI a.breaks), AV.sl (List.map eEnt a.entries), (vB a.ended)]])]) else none else none else some (Ex.exit (0 : Nat), St.mk [] [])) (Ent.mk
  (ByteArray.mk (Array.mk [])) (0 : Int) false (0 : Int) (ByteArray.mk (Array.mk [])) false []) := by kernel_rfl

theorem lpSmL_ok (a : Lst) (b : Lst) (k : Nat) (hp : prlSmL a b k = true) : ∀ ex s', (outSmL a b k).val = some (ex, s') → LoopOK enSmL (loopN Tryz.f18 0) (stSmL a b k) ex s' := by
  simp only [prlSmL, Bool.and_eq_true, decide_eq_true_eq] at hp
  obtain ⟨⟨h1, h2⟩, h3⟩ := hp
  have hz : (a.entries.zip b.entries).length = a.entries.length := by rw [List.length_zip]; omega
  refine loop_all (xs := a.entries.zip b.entries) (st := stSmL a b) (p := fun p => F.sameE p.1 p.2) (n := ([5, 3, 2], [3, 2])) (e := ([], [])) (r := ([4], [])) ?_ ⟨by simp, rfl⟩ ⟨by simp, rfl⟩ (fun _ => rfl) ?_ k (by omega)
  · rw [hz]; rw [evSmLL]; simp
  · intro k y hy
    obtain ⟨ha, hb⟩ := F.zip_at hy
    have hlt := lt_at ha
    have hlt' := lt_at hb
    rw [evSmLL]
    simp only [unSmE, unSmEw, preSmE1, unstSmL, unstSmL0, prlSmL, outSmL, etaEnt, etaLst, Option.bind_some, List.length_map, unStrs, unInts, unBools, unEnts, unItms, unTrns, cond_true, cond_false, Bool.and_true, Bool.true_and, cast_lt hlt, decide_eq_true hlt, decide_eq_true hlt', next_at hlt h1, getD_at ha, getD_at hb, stSmL, eEnt, eLst]
    simp only [Bool.cond_eq_ite]
    grind

theorem evSmL (a : Lst) (b : Lst) : (runF enSmL false Tryz.f18 [.agg (eLst a), .agg (eLst b)]).val =
  bif bif bif bif bif a.target != b.target then true else a.first != b.first then true else a.breaks != b.breaks then true else !a.ended == b.ended then true else
  (↑(List.length (List.map eEnt a.entries)) : Int) != (↑(List.length (List.map eEnt b.entries)) : Int) then some ((vB false), []) else Option.bind (unenc stSmL1 (St.mk [(5,
  (vI (0 : Int))), (3, .ptr 3 0 0), (2, .ptr 2 0 0)] [(3, Blk.mk true 0 0 [[(vI b.target), (vI b.first), (vI b.breaks), AV.sl (List.map eEnt b.entries), (vB b.ended)]]), (2,
  Blk.mk true 0 0 [[(vI a.target), (vI a.first), (vI a.breaks), AV.sl (List.map eEnt a.entries), (vB a.ended)]])])) fun (z : Lst × Lst × Nat) => bif decide (List.length
  z.fst.entries ≤ (9223372036854775807 : Nat)) && decide (z.snd.snd ≤ List.length z.fst.entries) && decide (List.length z.fst.entries = List.length z.snd.fst.entries) &&
  true then bif F.sameEs (List.drop z.snd.snd (List.zip z.fst.entries z.snd.fst.entries)) then some ((vB true), []) else some ((vB false), []) else none := by kernel_rfl

def encSmL1 (a : Lst) (b : Lst) : List AV := [.agg (eLst a), .agg (eLst b)]

def encSmL (a : Lst × Lst) : List AV := encSmL1 a.1 a.2

theorem encSmL_inj (a a' : Lst × Lst) (h : encSmL a = encSmL a') : a = a' := by
  simp only [encSmL, encSmL1] at h
  try simp [strs_inj, ents_inj, eEnt_iff, eLst_iff] at h
  grind

theorem unSmL (a : Lst) (b : Lst) : unenc encSmL ([AV.agg [(vI a.target), (vI a.first), (vI a.breaks), AV.sl (List.map eEnt a.entries), (vB a.ended)], AV.agg [(vI b.target), (vI b.first), (vI b.breaks), AV.sl (List.map
  eEnt b.entries), (vB b.ended)]]) = some (a, b) := unenc_of encSmL_inj (a, b) rfl

theorem unSmLw (a_target : Int) (a_first : Int) (a_breaks : Int) (a_entries : List Ent) (a_ended : Bool) (b_target : Int) (b_first : Int) (b_breaks : Int) (b_entries : List Ent) (b_ended : Bool) : unenc encSmL ([AV.agg [(vI a_target), (vI a_first), (vI a_breaks), AV.sl (List.map eEnt a_entries), (vB a_ended)], AV.agg [(vI b_target), (vI b_first), (vI b_breaks), AV.sl (List.map
  eEnt b_entries), (vB b_ended)]]) = some ((Lst.mk a_target a_first a_breaks a_entries a_ended), (Lst.mk b_target b_first b_breaks b_entries b_ended)) := unenc_of encSmL_inj ((Lst.mk a_target a_first a_breaks a_entries a_ended), (Lst.mk b_target b_first b_breaks b_entries b_ended)) rfl

def resSmL1 (a : Lst) (b : Lst) : AV × Heap := (vB (F.sameL a b), [])

def preSmL1 (a : Lst) (b : Lst) : Bool := true

noncomputable def oSmL : Orc := orc 18 true encSmL (fun a => preSmL1 a.1 a.2) fun a => resSmL1 a.1 a.2

theorem okSmL : OrcOK Tryz.prog noG oSmL := by
  refine mk_ok Tryz.f18 (keep := false) (by kernel_rfl) (by kernel_rfl) enSmL_ok mixed (one_loop (x0 := loopN Tryz.f18 0) (by kernel_rfl) (lpo_ok ?_)) (by first | exact fun _ _ => ⟨rfl, rfl⟩ | (intro h; cases h)) ?_
  · rintro ⟨a, b, k⟩ hp
    exact lpSmL_ok a b k hp
  rintro ⟨a, b⟩ hpre hok
  show (runF enSmL false _ (encSmL1 _ _)).val = some (resSmL1 _ _)
  unfold encSmL1 resSmL1
  rw [evSmL]
  have hx := lst_len (hok _ (List.mem_cons_self ..))
  simp only [unSmE, unSmEw, preSmE1, unstSmL, unstSmL0, prlSmL, outSmL, etaEnt, etaLst, Option.bind_some, List.length_map, unStrs, unInts, unBools, unEnts, unItms, unTrns, cond_true, cond_false, Bool.and_true, Bool.true_and, F.sameL, hx, List.drop_zero, Nat.zero_le, decide_true, F.cond_tl, F.len_eq, bne]
  cases a.target == b.target <;> cases a.first == b.first <;> cases a.breaks == b.breaks <;> cases a.ended == b.ended <;> try simp
  cases h : decide (a.entries.length = b.entries.length) <;> cases F.sameEs (a.entries.zip b.entries) <;> simp_all

end M

structure Snd where
  group : ByteArray
  name : ByteArray
  lang : ByteArray
  dflt : Bool
  uri : ByteArray

instance : Inhabited Snd := ⟨⟨⟨#[]⟩, ⟨#[]⟩, ⟨#[]⟩, false, ⟨#[]⟩⟩⟩

structure Strm where
  name : ByteArray
  uri : ByteArray
  mean : Int
  peak : Int
  width : Int
  height : Int
  sound : ByteArray

instance : Inhabited Strm := ⟨⟨⟨#[]⟩, ⟨#[]⟩, 0, 0, 0, 0, ⟨#[]⟩⟩⟩

structure Mas where
  streams : List Strm
  sounds : List Snd

instance : Inhabited Mas := ⟨⟨[], []⟩⟩

namespace M

def eSnd (x : Snd) : Row := [vS x.group, vS x.name, vS x.lang, vB x.dflt, vS x.uri]

theorem eSnd_inj (a b : Snd) (h : eSnd a = eSnd b) : a = b := by
  obtain ⟨a0, a1, a2, a3, a4⟩ := a
  obtain ⟨b0, b1, b2, b3, b4⟩ := b
  simp only [eSnd] at h
  simp [strs_inj, ints_inj, bools_inj] at h
  simp_all

theorem eSnds_inj {a b : List Snd} : a.map eSnd = b.map eSnd ↔ a = b := List.map_inj_right eSnd_inj

theorem eSnd_iff {a b : Snd} : eSnd a = eSnd b ↔ a = b := ⟨eSnd_inj a b, fun h => h ▸ rfl⟩

theorem etaSnd (x : Snd) : Snd.mk x.group x.name x.lang x.dflt x.uri = x := rfl

def eStrm (x : Strm) : Row := [vS x.name, vS x.uri, vI x.mean, vI x.peak, vI x.width, vI x.height, vS x.sound]

theorem eStrm_inj (a b : Strm) (h : eStrm a = eStrm b) : a = b := by
  obtain ⟨a0, a1, a2, a3, a4, a5, a6⟩ := a
  obtain ⟨b0, b1, b2, b3, b4, b5, b6⟩ := b
  simp only [eStrm] at h
  simp [strs_inj, ints_inj, bools_inj, eSnds_inj, eSnd_iff] at h
  simp_all

theorem eStrms_inj {a b : List Strm} : a.map eStrm = b.map eStrm ↔ a = b := List.map_inj_right eStrm_inj

theorem etaStrm (x : Strm) : Strm.mk x.name x.uri x.mean x.peak x.width x.height x.sound = x := rfl

theorem etaMas (x : Mas) : Mas.mk x.streams x.sounds = x := rfl

end M

end Go.Proofs.YtajmdlpanlbnjaaGreatDoor

namespace Go.Proofs.YtajmdlpanlbnjaaGreatDoor
open Go.Shelf
def Tryz.laysM171_ren : Go.Shelf.Ren := ⟨fun | 171 => 39 | 243 => 65 | 246 => 89 | 283 => 109 | 284 => 110 | 285 => 111 | 286 => 112 | 129 => 126 | 317 => 125 | 318 => 127 | 319 => 128 | 320 => 129 | 337 => 143 | 338 => 144 | n => n, fun | 3 => 3 | 9 => 9 | 2 => 2 | 4 => 4 | 171 => 139 | 0 => 0 | 53 => 128 | 37 => 79 | 5 => 5 | 173 => 142 | 212 => 154 | 51 => 155 | 20 => 20 | 213 => 156 | 46 => 145 | 232 => 174 | 233 => 175 | n => n, fun | 17 => 2 | 18 => 4 | 19 => 5 | n => n⟩
theorem Tryz.laysM171 : Go.Proofs.LaysM.n171 Tryz.prog Tryz.laysM171_ren := {
  mixed := by kernel_rfl
  f129 := Tryz.func126.trans (congrArg some (by kernel_rfl))
  f171 := Tryz.func39.trans (congrArg some (by kernel_rfl))
  f243 := Tryz.func65.trans (congrArg some (by kernel_rfl))
  f246 := Tryz.func89.trans (congrArg some (by kernel_rfl))
  f283 := Tryz.func109.trans (congrArg some (by kernel_rfl))
  f284 := Tryz.func110.trans (congrArg some (by kernel_rfl))
  f285 := Tryz.func111.trans (congrArg some (by kernel_rfl))
  f286 := Tryz.func112.trans (congrArg some (by kernel_rfl))
  f317 := Tryz.func125.trans (congrArg some (by kernel_rfl))
  f318 := Tryz.func127.trans (congrArg some (by kernel_rfl))
  f319 := Tryz.func128.trans (congrArg some (by kernel_rfl))
  f320 := Tryz.func129.trans (congrArg some (by kernel_rfl))
  f337 := Tryz.func143.trans (congrArg some (by kernel_rfl))
  f338 := Tryz.func144.trans (congrArg some (by kernel_rfl))
  t0 := Tryz.underlying0
  a0 := Tryz.isAgg0
  z0 := Tryz.sizeOf0
  v0 := Tryz.zeroValue0
  t2 := Tryz.underlying2
  a2 := Tryz.isAgg2
  z2 := Tryz.sizeOf2
  v2 := Tryz.zeroValue2
  t3 := Tryz.underlying3
  a3 := Tryz.isAgg3
  z3 := Tryz.sizeOf3
  v3 := Tryz.zeroValue3
  t4 := Tryz.underlying4
  a4 := Tryz.isAgg4
  z4 := Tryz.sizeOf4
  v4 := Tryz.zeroValue4
  t5 := Tryz.underlying5
  a5 := Tryz.isAgg5
  z5 := Tryz.sizeOf5
  v5 := Tryz.zeroValue5
  t9 := Tryz.underlying9
  a9 := Tryz.isAgg9
  z9 := Tryz.sizeOf9
  v9 := Tryz.zeroValue9
  t20 := Tryz.underlying20
  a20 := Tryz.isAgg20
  z20 := Tryz.sizeOf20
  v20 := Tryz.zeroValue20
  t37 := Tryz.underlying79
  a37 := Tryz.isAgg79
  z37 := Tryz.sizeOf79
  v37 := Tryz.zeroValue79
  t46 := Tryz.underlying145
  a46 := Tryz.isAgg145
  z46 := Tryz.sizeOf145
  v46 := Tryz.zeroValue145
  t51 := Tryz.underlying155
  a51 := Tryz.isAgg155
  z51 := Tryz.sizeOf155
  v51 := Tryz.zeroValue155
  t53 := Tryz.underlying128
  a53 := Tryz.isAgg128
  z53 := Tryz.sizeOf128
  v53 := Tryz.zeroValue128
  t171 := Tryz.underlying139
  a171 := Tryz.isAgg139
  z171 := Tryz.sizeOf139
  v171 := Tryz.zeroValue139
  t173 := Tryz.underlying142
  a173 := Tryz.isAgg142
  z173 := Tryz.sizeOf142
  v173 := Tryz.zeroValue142
  t212 := Tryz.underlying154
  a212 := Tryz.isAgg154
  z212 := Tryz.sizeOf154
  v212 := Tryz.zeroValue154
  t213 := Tryz.underlying156
  a213 := Tryz.isAgg156
  z213 := Tryz.sizeOf156
  t232 := Tryz.underlying174
  a232 := Tryz.isAgg174
  z232 := Tryz.sizeOf174
  v232 := Tryz.zeroValue174
  t233 := Tryz.underlying175
  a233 := Tryz.isAgg175
  z233 := Tryz.sizeOf175
  v233 := Tryz.zeroValue175
  g17 := by kernel_rfl
  g18 := by kernel_rfl
  g19 := by kernel_rfl
  i0 := by kernel_rfl
  i2 := by kernel_rfl
  i3 := by kernel_rfl
  i4 := by kernel_rfl
  i5 := by kernel_rfl
  i9 := by kernel_rfl
  i20 := by kernel_rfl
  i37 := by kernel_rfl
  i46 := by kernel_rfl
  i51 := by kernel_rfl
  i53 := by kernel_rfl
  i171 := by kernel_rfl
  i173 := by kernel_rfl
  i212 := by kernel_rfl
  i232 := by kernel_rfl
  i233 := by kernel_rfl
  m17 := by kernel_rfl
  m18 := by kernel_rfl
  m19 := by kernel_rfl }
open Go.RowKit Go.Sort Go.Lib in
theorem Tryz.strconv_Itoa (n : Int) (h0 : -9223372036854775808 ≤ n) (h1 : n ≤ 9223372036854775807) (w : World) (htab : Lib.TabIs Tryz.prog w "internal/strconv.uint64pow10" .u64 Lib.pow10Tab) :
    Calls Tryz.prog 39 #[.int .i64 n] w fun e w' => e = .returned (.string ⟨(Lib.itoa n).toArray⟩) ∧ ∃ k os, w' = grow (w.drewN k) os := Any.strconv_Itoa Tryz.laysM171 n h0 h1 w htab
def Tryz.laysC172_ren : Go.Shelf.Ren := ⟨fun | 172 => 132 | 244 => 149 | 245 => 150 | 247 => 157 | 279 => 158 | 280 => 159 | 281 => 160 | 282 => 161 | 287 => 163 | 316 => 164 | 171 => 39 | 205 => 165 | 321 => 166 | 322 => 167 | 243 => 65 | 246 => 89 | 283 => 109 | 284 => 110 | 285 => 111 | 286 => 112 | 129 => 126 | 317 => 125 | 318 => 127 | 319 => 128 | 320 => 129 | 337 => 143 | 338 => 144 | n => n, fun | 9 => 9 | 3 => 3 | 75 => 83 | 76 => 84 | 4 => 4 | 5 => 5 | 167 => 177 | 37 => 79 | 0 => 0 | 85 => 178 | 2 => 2 | 168 => 180 | 53 => 128 | 175 => 184 | 46 => 145 | 210 => 187 | 127 => 116 | 145 => 192 | 143 => 190 | 21 => 21 | 171 => 139 | 173 => 142 | 212 => 154 | 51 => 155 | 20 => 20 | 213 => 156 | 232 => 174 | 233 => 175 | 80 => 91 | n => n, fun | 15 => 6 | 16 => 7 | 17 => 2 | 18 => 4 | 19 => 5 | n => n⟩
theorem Tryz.laysC172 : Go.Proofs.LaysC.n172 Tryz.prog Tryz.laysC172_ren := {
  mixed := by kernel_rfl
  f129 := Tryz.func126.trans (congrArg some (by kernel_rfl))
  f171 := Tryz.func39.trans (congrArg some (by kernel_rfl))
  f172 := Tryz.func132.trans (congrArg some (by kernel_rfl))
  f205 := Tryz.func165.trans (congrArg some (by kernel_rfl))
  f243 := Tryz.func65.trans (congrArg some (by kernel_rfl))
  f244 := Tryz.func149.trans (congrArg some (by kernel_rfl))
  f245 := Tryz.func150.trans (congrArg some (by kernel_rfl))
  f246 := Tryz.func89.trans (congrArg some (by kernel_rfl))
  f247 := Tryz.func157.trans (congrArg some (by kernel_rfl))
  f279 := Tryz.func158.trans (congrArg some (by kernel_rfl))
  f280 := Tryz.func159.trans (congrArg some (by kernel_rfl))
  f281 := Tryz.func160.trans (congrArg some (by kernel_rfl))
  f282 := Tryz.func161.trans (congrArg some (by kernel_rfl))
  f283 := Tryz.func109.trans (congrArg some (by kernel_rfl))
  f284 := Tryz.func110.trans (congrArg some (by kernel_rfl))
  f285 := Tryz.func111.trans (congrArg some (by kernel_rfl))
  f286 := Tryz.func112.trans (congrArg some (by kernel_rfl))
  f287 := Tryz.func163.trans (congrArg some (by kernel_rfl))
  f316 := Tryz.func164.trans (congrArg some (by kernel_rfl))
  f317 := Tryz.func125.trans (congrArg some (by kernel_rfl))
  f318 := Tryz.func127.trans (congrArg some (by kernel_rfl))
  f319 := Tryz.func128.trans (congrArg some (by kernel_rfl))
  f320 := Tryz.func129.trans (congrArg some (by kernel_rfl))
  f321 := Tryz.func166.trans (congrArg some (by kernel_rfl))
  f322 := Tryz.func167.trans (congrArg some (by kernel_rfl))
  f337 := Tryz.func143.trans (congrArg some (by kernel_rfl))
  f338 := Tryz.func144.trans (congrArg some (by kernel_rfl))
  t0 := Tryz.underlying0
  a0 := Tryz.isAgg0
  z0 := Tryz.sizeOf0
  v0 := Tryz.zeroValue0
  t2 := Tryz.underlying2
  a2 := Tryz.isAgg2
  z2 := Tryz.sizeOf2
  v2 := Tryz.zeroValue2
  t3 := Tryz.underlying3
  a3 := Tryz.isAgg3
  z3 := Tryz.sizeOf3
  v3 := Tryz.zeroValue3
  t4 := Tryz.underlying4
  a4 := Tryz.isAgg4
  z4 := Tryz.sizeOf4
  v4 := Tryz.zeroValue4
  t5 := Tryz.underlying5
  a5 := Tryz.isAgg5
  z5 := Tryz.sizeOf5
  v5 := Tryz.zeroValue5
  t9 := Tryz.underlying9
  a9 := Tryz.isAgg9
  z9 := Tryz.sizeOf9
  v9 := Tryz.zeroValue9
  t20 := Tryz.underlying20
  a20 := Tryz.isAgg20
  z20 := Tryz.sizeOf20
  v20 := Tryz.zeroValue20
  t21 := Tryz.underlying21
  a21 := Tryz.isAgg21
  z21 := Tryz.sizeOf21
  v21 := Tryz.zeroValue21
  t37 := Tryz.underlying79
  a37 := Tryz.isAgg79
  z37 := Tryz.sizeOf79
  v37 := Tryz.zeroValue79
  t46 := Tryz.underlying145
  a46 := Tryz.isAgg145
  z46 := Tryz.sizeOf145
  v46 := Tryz.zeroValue145
  t51 := Tryz.underlying155
  a51 := Tryz.isAgg155
  z51 := Tryz.sizeOf155
  v51 := Tryz.zeroValue155
  t53 := Tryz.underlying128
  a53 := Tryz.isAgg128
  z53 := Tryz.sizeOf128
  v53 := Tryz.zeroValue128
  t75 := Tryz.underlying83
  a75 := Tryz.isAgg83
  z75 := Tryz.sizeOf83
  v75 := Tryz.zeroValue83
  t76 := Tryz.underlying84
  a76 := Tryz.isAgg84
  z76 := Tryz.sizeOf84
  v76 := Tryz.zeroValue84
  t85 := Tryz.underlying178
  a85 := Tryz.isAgg178
  z85 := Tryz.sizeOf178
  v85 := Tryz.zeroValue178
  t127 := Tryz.underlying116
  a127 := Tryz.isAgg116
  z127 := Tryz.sizeOf116
  v127 := Tryz.zeroValue116
  t143 := Tryz.underlying190
  a143 := Tryz.isAgg190
  z143 := Tryz.sizeOf190
  v143 := Tryz.zeroValue190
  t145 := Tryz.underlying192
  a145 := Tryz.isAgg192
  z145 := Tryz.sizeOf192
  v145 := Tryz.zeroValue192
  t167 := Tryz.underlying177
  a167 := Tryz.isAgg177
  z167 := Tryz.sizeOf177
  v167 := Tryz.zeroValue177
  t168 := Tryz.underlying180
  a168 := Tryz.isAgg180
  z168 := Tryz.sizeOf180
  v168 := Tryz.zeroValue180
  t171 := Tryz.underlying139
  a171 := Tryz.isAgg139
  z171 := Tryz.sizeOf139
  v171 := Tryz.zeroValue139
  t173 := Tryz.underlying142
  a173 := Tryz.isAgg142
  z173 := Tryz.sizeOf142
  v173 := Tryz.zeroValue142
  t175 := Tryz.underlying184
  a175 := Tryz.isAgg184
  z175 := Tryz.sizeOf184
  v175 := Tryz.zeroValue184
  t210 := Tryz.underlying187
  a210 := Tryz.isAgg187
  z210 := Tryz.sizeOf187
  v210 := Tryz.zeroValue187
  t212 := Tryz.underlying154
  a212 := Tryz.isAgg154
  z212 := Tryz.sizeOf154
  v212 := Tryz.zeroValue154
  t213 := Tryz.underlying156
  a213 := Tryz.isAgg156
  z213 := Tryz.sizeOf156
  t232 := Tryz.underlying174
  a232 := Tryz.isAgg174
  z232 := Tryz.sizeOf174
  v232 := Tryz.zeroValue174
  t233 := Tryz.underlying175
  a233 := Tryz.isAgg175
  z233 := Tryz.sizeOf175
  v233 := Tryz.zeroValue175
  g15 := by kernel_rfl
  g16 := by kernel_rfl
  g17 := by kernel_rfl
  g18 := by kernel_rfl
  g19 := by kernel_rfl
  t80 := Tryz.underlying91
  a80 := Tryz.isAgg91
  z80 := Tryz.sizeOf91
  v80 := Tryz.zeroValue91
  i0 := by kernel_rfl
  i2 := by kernel_rfl
  i3 := by kernel_rfl
  i4 := by kernel_rfl
  i5 := by kernel_rfl
  i9 := by kernel_rfl
  i20 := by kernel_rfl
  i21 := by kernel_rfl
  i37 := by kernel_rfl
  i46 := by kernel_rfl
  i51 := by kernel_rfl
  i53 := by kernel_rfl
  i75 := by kernel_rfl
  i76 := by kernel_rfl
  i80 := by kernel_rfl
  i85 := by kernel_rfl
  i127 := by kernel_rfl
  i143 := by kernel_rfl
  i145 := by kernel_rfl
  i167 := by kernel_rfl
  i168 := by kernel_rfl
  i171 := by kernel_rfl
  i173 := by kernel_rfl
  i175 := by kernel_rfl
  i210 := by kernel_rfl
  i212 := by kernel_rfl
  i232 := by kernel_rfl
  i233 := by kernel_rfl
  m15 := by kernel_rfl
  m16 := by kernel_rfl
  m17 := by kernel_rfl
  m18 := by kernel_rfl
  m19 := by kernel_rfl
  c0 := by kernel_rfl
  c2 := by kernel_rfl
  c3 := by kernel_rfl
  c4 := by kernel_rfl
  c5 := by kernel_rfl
  c9 := by kernel_rfl
  c20 := by kernel_rfl
  c21 := by kernel_rfl
  c37 := by kernel_rfl
  c46 := by kernel_rfl
  c51 := by kernel_rfl
  c53 := by kernel_rfl
  c75 := by kernel_rfl
  c76 := by kernel_rfl
  c80 := by kernel_rfl
  c85 := by kernel_rfl
  c127 := by kernel_rfl
  c143 := by kernel_rfl
  c145 := by kernel_rfl
  c167 := by kernel_rfl
  c168 := by kernel_rfl
  c171 := by kernel_rfl
  c173 := by kernel_rfl
  c175 := by kernel_rfl
  c210 := by kernel_rfl
  c212 := by kernel_rfl
  c213 := by kernel_rfl
  c232 := by kernel_rfl
  c233 := by kernel_rfl }
open Go.RowKit in
theorem Tryz.strconv_Atoi_ok (s : ByteArray) (hmax : s.size ≤ 9223372036854775806) (v : Int) (h : Lib.atoiAll s.data.toList = .ok v) (w : World) :
    Calls Tryz.prog 132 #[.string s] w fun e w' => e = .returned (.tuple #[.int .i64 v, .nilIface]) ∧ (w' = w ∨ ∃ t, w' = Lib.bytesWorld w 5 t) := Any.strconv_Atoi_ok Tryz.laysC172 s hmax v h w
def Tryz.lays145_ren : Go.Shelf.Ren := ⟨fun | 145 => 92 | 220 => 113 | 219 => 130 | 217 => 145 | 225 => 146 | 224 => 147 | 267 => 148 | 266 => 155 | 314 => 156 | n => n, fun | 9 => 9 | 4 => 4 | 59 => 122 | 3 => 3 | 5 => 5 | 46 => 145 | 146 => 172 | 51 => 155 | n => n, fun | 1 => 3 | n => n⟩
theorem Tryz.lays145 : Go.Proofs.Lays.n145 Tryz.prog Tryz.lays145_ren := {
  mixed := by kernel_rfl
  f145 := Tryz.func92.trans (congrArg some (by kernel_rfl))
  f217 := Tryz.func145.trans (congrArg some (by kernel_rfl))
  f219 := Tryz.func130.trans (congrArg some (by kernel_rfl))
  f220 := Tryz.func113.trans (congrArg some (by kernel_rfl))
  f224 := Tryz.func147.trans (congrArg some (by kernel_rfl))
  f225 := Tryz.func146.trans (congrArg some (by kernel_rfl))
  f266 := Tryz.func155.trans (congrArg some (by kernel_rfl))
  f267 := Tryz.func148.trans (congrArg some (by kernel_rfl))
  f314 := Tryz.func156.trans (congrArg some (by kernel_rfl))
  t3 := Tryz.underlying3
  a3 := Tryz.isAgg3
  z3 := Tryz.sizeOf3
  v3 := Tryz.zeroValue3
  t4 := Tryz.underlying4
  a4 := Tryz.isAgg4
  z4 := Tryz.sizeOf4
  v4 := Tryz.zeroValue4
  t5 := Tryz.underlying5
  a5 := Tryz.isAgg5
  z5 := Tryz.sizeOf5
  v5 := Tryz.zeroValue5
  t9 := Tryz.underlying9
  a9 := Tryz.isAgg9
  z9 := Tryz.sizeOf9
  v9 := Tryz.zeroValue9
  t46 := Tryz.underlying145
  a46 := Tryz.isAgg145
  z46 := Tryz.sizeOf145
  v46 := Tryz.zeroValue145
  t51 := Tryz.underlying155
  a51 := Tryz.isAgg155
  z51 := Tryz.sizeOf155
  v51 := Tryz.zeroValue155
  t59 := Tryz.underlying122
  a59 := Tryz.isAgg122
  z59 := Tryz.sizeOf122
  v59 := Tryz.zeroValue122
  t146 := Tryz.underlying172
  a146 := Tryz.isAgg172
  z146 := Tryz.sizeOf172
  v146 := Tryz.zeroValue172
  g1 := by kernel_rfl }
open Go.RowKit Go.Lib in
theorem Tryz.strings_Cut (s sep : ByteArray) (m : Int) (w : World) (hs : s.size < 4294967281) (hm : w.cell? ⟨3, 0, none⟩ = some (.int .i64 m)) :
    Calls Tryz.prog 92 #[.string s, .string sep] w fun e w' => e = .returned (.tuple #[.string ⟨(Lib.cut s.data.toList sep.data.toList).1.toArray⟩, .string ⟨(Lib.cut s.data.toList sep.data.toList).2.1.toArray⟩, .bool (Lib.cut s.data.toList sep.data.toList).2.2]) ∧ ∃ n, w' = w.drewN n := Any.strings_Cut Tryz.lays145 s sep m w hs hm
def Tryz.lays264_ren : Go.Shelf.Ren := ⟨fun | 264 => 97 | n => n, fun | 53 => 128 | 46 => 145 | n => n, fun | n => n⟩
theorem Tryz.lays264 : Go.Proofs.Lays.n264 Tryz.prog Tryz.lays264_ren := {
  mixed := by kernel_rfl
  f264 := Tryz.func97.trans (congrArg some (by kernel_rfl))
  t46 := Tryz.underlying145
  a46 := Tryz.isAgg145
  z46 := Tryz.sizeOf145
  v46 := Tryz.zeroValue145
  t53 := Tryz.underlying128
  a53 := Tryz.isAgg128
  z53 := Tryz.sizeOf128
  v53 := Tryz.zeroValue128 }
open Go.RowKit Go.Lib in
theorem Tryz.bits_Mul64 (x y : Nat) (hx : x < 18446744073709551616) (hy : y < 18446744073709551616) (w : World) :
    Calls Tryz.prog 97 #[.int .u64 x, .int .u64 y] w fun e w' => e = .returned (.tuple #[.int .u64 ((x * y / 18446744073709551616 : Nat) : Int), .int .u64 ((x * y % 18446744073709551616 : Nat) : Int)]) ∧ w' = w := Any.bits_Mul64 Tryz.lays264 x y hx hy w
end Go.Proofs.YtajmdlpanlbnjaaGreatDoor

namespace Go.Proofs.YtajmdlpanlbnjaaGreatDoor.M
open Go.ChangeShapes Go.WideShapes Go.ChangeAt Go.RowKit Go.Deep
set_option linter.unusedVariables false
set_option linter.unusedSimpArgs false

def Inn (w : World) : Nat → Prop := fun b => b < w.heap.size

def Opn {α : Type} (P : Program) (t : TypeId) (E : α → List AV) (K : α → Prop) : Prop :=
  ∀ (H : Type) (enc : TypeId × Value → H) (w : World) (fuel : Nat) (cs : List Value) (d : DataW H) (p : List MemPlace),
    DataW.trod enc P w 0 (fun _ => true) true fuel t cs = some (d, p) → (∀ n ∈ d.weights P t, n ≤ reachBytes) → ∃ x, RL (R0 w (Inn w)) (E x) cs ∧ K x

def cI (n : Int) : List AV := [.v (.int .i64 n)]
def cB (b : Bool) : List AV := [.v (.bool b)]
def cS (s : ByteArray) : List AV := [.v (.string s)]
def cSl {α : Type} (E : α → List AV) (xs : List α) : List AV := [.sl (xs.map E)]

theorem opn_int {P : Program} {t : TypeId} (ht : P.underlying t = some (.int .i64)) : Opn P t cI (fun _ => True) := by
  intro H enc w fuel cs d p h hw
  obtain ⟨n, rfl, _, hn⟩ := DataW.trod_int ht h
  refine ⟨n, ⟨.v ?_, trivial⟩, trivial⟩
  have := bounds_i64 hn
  simp only [okAtom, IntKind.min, IntKind.max, IntKind.signed, IntKind.bits]
  simp
  omega
theorem opn_bool {P : Program} {t : TypeId} (ht : P.underlying t = some .bool) : Opn P t cB (fun _ => True) := by
  intro H enc w fuel cs d p h hw
  obtain ⟨n, rfl, _⟩ := DataW.trod_bool ht h
  exact ⟨n, ⟨.v trivial, trivial⟩, trivial⟩
theorem weights_all {H : Type} {P : Program} {e : TypeId} {d : DataW H} : ∀ {l : List (DataW H)}, d ∈ l → ∀ n ∈ d.weights P e, n ∈ DataW.weightsAll P e l
  | x :: r, h, n, hn => by
    simp only [DataW.weightsAll, List.mem_append]
    rcases List.mem_cons.1 h with rfl | h
    · exact .inl hn
    · exact .inr (weights_all h n hn)

theorem list_of {α : Type} {Q : Nat → α → Prop} : ∀ (n : Nat), (∀ i, i < n → ∃ x, Q i x) → ∃ xs : List α, xs.length = n ∧ ∀ i x, xs[i]? = some x → Q i x
  | 0, _ => ⟨[], rfl, fun i x h => by simp at h⟩
  | n + 1, h => by
    obtain ⟨xs, hl, hx⟩ := list_of n fun i hi => h i (by omega)
    obtain ⟨y, hy⟩ := h n (by omega)
    refine ⟨xs ++ [y], by simp [hl], fun i x hi => ?_⟩
    rw [List.getElem?_append] at hi
    split at hi
    · exact hx i x hi
    · have hlt := (List.getElem?_eq_some_iff.1 hi).1
      have : i = n := by simp at hlt; omega
      subst this
      rw [hl] at hi
      simp at hi
      subst hi
      exact hy

theorem cell_in {w : World} {b o : Nat} {v : Value} (h : w.cell? ⟨b, o, none⟩ = some v) : b < w.heap.size := by
  simp only [World.cell?] at h
  cases hb : w.heap[b]? with
  | none => rw [hb] at h; cases h
  | some x => exact (Array.getElem?_eq_some_iff.1 hb).1

theorem weights_each {H : Type} {P : Program} : ∀ {ts : List TypeId} {ds : List (DataW H)} {j : Nat} {t : TypeId} {d : DataW H}, ts[j]? = some t → ds[j]? = some d → ∀ n ∈ d.weights P t, n ∈ DataW.weightsEach P ts ds :=
  DataW.weights_mem_each

theorem orc_at {α : Type} {P : Program} {G : Nat → Option GR} {f : FuncId} {flat : Bool} {enc : α → List AV} {pre : α → Bool} {res : α → AV × Heap} (h : OrcOK P G (orc f flat enc pre res)) (hi : ∀ a a', enc a = enc a' → a = a') (a : α) (hp : pre a = true) :
    SpecP P G f (enc a) (res a).1 (res a).2 := by
  refine h.spec (enc a) _ _ ?_
  simp only [orc, unenc_of hi a rfl, T.val, hp]
theorem law_calls {P : Program} {G : Nat → Option GR} {f : FuncId} {args : List AV} {W : World} (h : SpecP P G f args (.v (.bool true)) []) (hG : ∀ g r, G g = some r → GlobAt W (Inn W) g r) {cargs : List Value} (hargs : RL (RV W (Inn W) noKeys) args cargs) :
    Calls P f cargs.toArray W fun e W1 => e = .returned (.bool true) ∧ Below W.heap.size W W1 := by
  refine (h W (Inn W) cargs (fun _ h => h) hG hargs).mono ?_
  rintro e W1 ⟨v, S', β', rfl, hb, _, _, _, _, _, _, _, hr⟩
  rw [(rv_v hr).1]
  exact ⟨rfl, hb⟩
theorem rv_agg_of {w : World} {S : Nat → Prop} {cs : List AV} {vs : Array Value} (h : RL (R0 w S) cs vs.toList) : RV w S noKeys (.agg cs) (.agg vs) := ⟨vs.toList, by simp, h.imp fun _ _ _ h => h.rc⟩
theorem rv_sl_of {w : World} {S : Nat → Prop} {rows : List Row} {v : Value} (h : RL (R0 w S) [.sl rows] [v]) : RV w S noKeys (.sl rows) v := h.1
end Go.Proofs.YtajmdlpanlbnjaaGreatDoor.M

namespace Go.Proofs.YtajmdlpanlbnjaaGreatDoor.M
open Go.ChangeShapes Go.WideShapes Go.ChangeAt Go.RowKit Go.Deep
set_option linter.unusedVariables false
set_option linter.unusedSimpArgs false

theorem bulks.one_le {H : Type} (d : DataW H) : 1 ≤ Rows.uptoBulk d := by
  cases d with
  | lit l => cases l <;> simp [Rows.uptoBulk]
  | nil => simp [Rows.uptoBulk]
  | ptr d => simp [Rows.uptoBulk]
  | slice elems spare => simp [Rows.uptoBulk]
  | agg parts => simp [Rows.uptoBulk]
  | iface t d => simp [Rows.uptoBulk]
  | map entries => simp [Rows.uptoBulk]
  | held h => simp [Rows.uptoBulk]

theorem bulks.part_le {H : Type} {d : DataW H} {l : List (DataW H)} (h : d ∈ l) : Rows.uptoBulk d ≤ Rows.uptoBulkAll l := by
  induction l with
  | nil => cases h
  | cons x r ih =>
    simp only [Rows.uptoBulkAll]
    cases List.mem_cons.1 h with
    | inl e => subst e; omega
    | inr e => have := ih e; omega

theorem bulks.length_le {H : Type} (l : List (DataW H)) : l.length ≤ Rows.uptoBulkAll l := by
  induction l with
  | nil => simp [Rows.uptoBulkAll]
  | cons x r ih => have := bulks.one_le x; simp only [Rows.uptoBulkAll, List.length_cons]; omega

theorem bulks.bound {H : Type} {l : List (DataW H)} (hk : Rows.uptoSmall H l = true) : Rows.uptoBulkAll l ≤ 1048576 := by
  simpa [Rows.uptoSmall] using hk

def OpnU {α : Type} (P : Program) (t : TypeId) (E : α → List AV) (K : α → Prop) : Prop :=
  ∀ (H : Type) (enc : TypeId × Value → H) (w : World) (fuel : Nat) (cs : List Value) (d : DataW H) (p : List MemPlace),
    DataW.trod enc P w 0 (fun _ => true) true fuel t cs = some (d, p) → (∀ n ∈ d.weights P t, n ≤ reachBytes) → Rows.uptoBulk d ≤ 1048576 → ∃ x, RL (R0 w (Inn w)) (E x) cs ∧ K x

theorem Opn.small {α : Type} {P : Program} {t : TypeId} {E : α → List AV} {K : α → Prop} (h : Opn P t E K) : OpnU P t E K :=
  fun H enc w fuel cs d p h1 h2 _ => h H enc w fuel cs d p h1 h2

def smS (s : ByteArray) : Prop := s.size ≤ 1048576

theorem opnU_str {P : Program} {t : TypeId} (ht : P.underlying t = some .string) : OpnU P t cS smS := by
  intro H enc w fuel cs d p h hw hb
  obtain ⟨n, rfl, hd, hn⟩ := DataW.trod_string ht h
  refine ⟨n, ⟨.v hn, trivial⟩, ?_⟩
  unfold smS
  first | (obtain ⟨rfl, _⟩ := Prod.mk.inj hd) | (obtain rfl := hd) | (have hd := congrArg Prod.fst hd; simp only at hd; subst hd)
  simp only [Rows.uptoBulk] at hb
  have : n.data.toList.length = n.size := by simp
  omega

def KU {α : Type} (K : α → Prop) (xs : List α) : Prop := xs.length ≤ 1048576 ∧ ∀ x ∈ xs, K x

theorem opnU_slice {α : Type} {P : Program} {t e : TypeId} {size bytes : Nat} {E : α → List AV} {K : α → Prop} (ht : P.underlying t = some (.slice e)) (hs : P.cellsOf e = size) (hb : P.bytesOf e = bytes) (h0 : 0 < size) (hE : ∀ x, (E x).length = size)
    (he : OpnU P e E K) : OpnU P t (cSl E) (KU K) := by
  intro H enc w fuel cs d p h hw hbk
  rcases open_slice ht h with ⟨rfl, hx⟩ | ⟨a, len, cap, m, n, D, Pl, rfl, _, hl, hm, hmm, hx, hi⟩
  · refine ⟨[], ⟨?_, trivial⟩, by simp [KU], by simp⟩
    exact R0.sl (rows := []) (size := 0) (b := 0) (off := 0) (vals := fun _ _ => .nilFunc) (by simp) (by simp) (by simp) (by simp) (by simp) (by simp)
  · simp only [if_true] at hmm
    subst hmm
    simp only [Prod.mk.injEq] at hx
    obtain ⟨rfl, _⟩ := hx
    have hwt : ∀ i, i < m → ∀ k ∈ (D i).weights P e, k ≤ reachBytes := by
      intro i him k hk
      refine hw k ?_
      simp only [DataW.weights, ht, List.mem_cons, List.mem_append]
      rcases Nat.lt_or_ge i len with hlt | hge
      · exact .inr (.inl (weights_all (by simp; exact ⟨i, hlt, rfl⟩) k hk))
      · exact .inr (.inr (weights_all (by simp; exact ⟨i - len, by omega, by congr 1; omega⟩) k hk))
    have hbl : ∀ i, i < m → Rows.uptoBulk (D i) ≤ 1048576 := by
      intro i him
      rcases Nat.lt_or_ge i len with hlt | hge
      · refine Nat.le_trans (bulks.part_le (l := (List.range len).map D) (by simp; exact ⟨i, hlt, rfl⟩)) ?_
        simp only [Rows.uptoBulk] at hbk; omega
      · refine Nat.le_trans (bulks.part_le (l := (List.range (m - len)).map fun i => D (len + i)) (by simp; exact ⟨i - len, by omega, by congr 1; omega⟩)) ?_
        simp only [Rows.uptoBulk] at hbk; omega
    have hlen : len ≤ 1048576 := by
      have := bulks.length_le ((List.range len).map D)
      simp only [Rows.uptoBulk] at hbk
      rw [List.length_map, List.length_range] at this
      omega
    have hown : (len + (m - len)) * bytes ≤ reachBytes := by
      refine hw _ ?_
      simp only [DataW.weights, ht, List.length_map, List.length_range, hb]
      exact List.mem_cons_self
    obtain ⟨xs, hxl, hxs⟩ := list_of (Q := fun i x => ∃ b off cs', a = ⟨b, off, none⟩ ∧ b < w.heap.size ∧ RL (R0 w (Inn w)) (E x) cs' ∧ K x ∧ cs'.length = size ∧ ∀ j v, cs'[j]? = some v → w.cell? ⟨b, off + i * size + j, none⟩ = some v) len (by
      intro i hi'
      obtain ⟨cs', hc, ht'⟩ := hi i (by omega)
      obtain ⟨_, hcl, hat⟩ := World.cells?_some hc
      rw [hs] at hcl hat
      obtain ⟨x, hx, hk⟩ := he H enc w n cs' _ _ ht' (hwt i (by omega)) (hbl i (by omega))
      obtain ⟨b, off, spot⟩ := a
      obtain ⟨cs0, hc0, _⟩ := hi 0 (by omega)
      obtain ⟨_, hcl0, hat0⟩ := World.cells?_some hc0
      rw [hs] at hcl0 hat0
      have hz0 := hat0 0 h0
      rw [List.getElem?_eq_getElem (by omega)] at hz0
      have hspot := World.cell?_spot hz0
      have hspot' : spot = none := by simpa [Addr.add] using hspot
      subst hspot'
      have hcell : ∀ j v, cs'[j]? = some v → w.cell? ⟨b, off + i * size + j, none⟩ = some v := by
        intro j v hv
        have hj : j < size := by rw [← hcl]; exact (List.getElem?_eq_some_iff.1 hv).1
        have := hat j hj
        rw [hv] at this
        rw [← this]
        congr 1
        simp only [Addr.add]
        by_cases h1 : i * size = 0 <;> by_cases h2 : j = 0 <;> simp [h1, h2] <;> omega
      have hin := cell_in (hcell 0 _ (List.getElem?_eq_getElem (by omega)))
      exact ⟨x, b, off, cs', rfl, hin, hx, hk, hcl, hcell⟩)
    have hr : reachBytes = 140737488351232 := rfl
    have hlm : len ≤ len + (m - len) := by omega
    have h47 : len * bytes ≤ 140737488351232 := by
      have := Nat.mul_le_mul_right bytes hlm
      omega
    have hm' : m ≤ 9223372036854775807 := by have : m ≤ maxLen := hm; simpa [maxLen] using this
    refine ⟨xs, ⟨?_, trivial⟩, by rw [hxl]; exact hlen, fun x hx => ?_⟩
    · obtain ⟨b, off, spot⟩ := a
      have hval : ∀ (i : Nat), ∃ cs' : List Value, ∀ x, xs[i]? = some x → spot = none ∧ b < w.heap.size ∧ RL (R0 w (Inn w)) (E x) cs' ∧ ∀ j v, cs'[j]? = some v → w.cell? ⟨b, off + i * size + j, none⟩ = some v := by
        intro i
        cases hx : xs[i]? with
        | none => exact ⟨[], fun x h => by cases h⟩
        | some x =>
          obtain ⟨b', off', cs', e1, h1, h2, h3, h4, h5⟩ := hxs i x hx
          cases e1
          exact ⟨cs', fun y hy => by cases hy; exact ⟨rfl, h1, h2, h5⟩⟩
      let vals : Nat → Nat → Value := fun i j => ((Classical.choose (hval i))[j]?).getD .nilFunc
      have hv := fun i => Classical.choose_spec (hval i)
      have hne : xs.map E ≠ [] → spot = none ∧ b < w.heap.size := by
        intro hn
        cases xs with
        | nil => exact absurd rfl hn
        | cons x xs =>
          obtain ⟨q1, q2, _⟩ := hv 0 x rfl
          exact ⟨q1, q2⟩
      have key : ∀ (i j : Nat) (row : Row) (c : AV), (xs.map E)[i]? = some row → row[j]? = some c → w.cell? ⟨b, off + i * size + j, none⟩ = some (vals i j) ∧ R0 w (Inn w) c (vals i j) := by
        intro i j row c hi hj
        simp only [List.getElem?_map, Option.map_eq_some_iff] at hi
        obtain ⟨x, hx, rfl⟩ := hi
        obtain ⟨_, _, h2, h5⟩ := hv i x hx
        obtain ⟨v, hv1, hv2⟩ := h2.get hj
        have e : vals i j = v := by show ((Classical.choose (hval i))[j]?).getD .nilFunc = v; rw [hv1]; rfl
        rw [e]
        exact ⟨h5 j v hv1, hv2⟩
      have hlen : (xs.map E).length = len := by simp [hxl]
      have := R0.sl (w := w) (S := Inn w) (rows := xs.map E) (A := some ⟨b, off, spot⟩) (cap := m) (size := size) (b := b) (off := off) (vals := vals) (by rw [hlen]; omega) hm'
        (fun hn => by obtain ⟨q1, q2⟩ := hne hn; subst q1; exact ⟨rfl, q2⟩)
        (fun i row hi => by
          simp only [List.getElem?_map, Option.map_eq_some_iff] at hi
          obtain ⟨x, _, rfl⟩ := hi
          exact hE x)
        (fun i j row c hi hj => (key i j row c hi hj).1) (fun i j row c hi hj => (key i j row c hi hj).2)
      rw [hlen] at this
      exact this
    · obtain ⟨i, hi⟩ := List.getElem?_of_mem hx
      obtain ⟨_, _, _, _, _, _, hk, _⟩ := hxs i x hi
      exact hk

theorem opnU_fields {H : Type} {enc : TypeId × Value → H} {P : Program} {w : World} {fuel : Nat} {t : TypeId} {cs : List Value} {d : DataW H} {p : List MemPlace} {fs : Array Field}
    (ht : P.underlying t = some (.struct fs)) (h : DataW.trod enc P w 0 (fun _ => true) true fuel t cs = some (d, p)) (hw : ∀ n ∈ d.weights P t, n ≤ reachBytes) (hbk : Rows.uptoBulk d ≤ 1048576) :
    cs.length = P.cellsOf t ∧ ∀ (i : Nat) (f : Field), fs[i]? = some f → ∀ {α : Type} {E : α → List AV} {K : α → Prop}, OpnU P f.type E K → ∃ x, RL (R0 w (Inn w)) (E x) ((cs.drop f.offset).take (P.cellsOf f.type)) ∧ K x := by
  obtain ⟨xs, n, _, hx, hl, hxl, hf⟩ := DataW.trod_struct ht h
  simp only [Prod.mk.injEq] at hx
  obtain ⟨rfl, _⟩ := hx
  refine ⟨hl, fun i f hi α E K hR => ?_⟩
  have h1 := hf i f hi
  have hlt : i < xs.length := by rw [hxl]; exact (Array.getElem?_eq_some_iff.1 hi).1
  rw [List.getElem?_eq_getElem hlt] at h1
  refine hR H enc w n _ _ _ h1 (fun k hk => hw k ?_) ?_
  · simp only [DataW.weights, ht]
    refine weights_each (j := i) ?_ ?_ k hk
    · simp [hi]
    · simp [List.getElem?_eq_getElem hlt]
  · refine Nat.le_trans (bulks.part_le (l := xs.map (·.1)) (List.mem_map.2 ⟨xs[i], List.getElem_mem hlt, rfl⟩)) ?_
    simp only [Rows.uptoBulk] at hbk
    omega

theorem SpecP.below1 {P : Program} {G : Nat → Option GR} {f : FuncId} {x : Value} {r : AV} {rv : Value} (hr : ∀ w S, RV w S noKeys r rv)
    (h : okAtom x → ∀ w (S : Nat → Prop), (∀ g r, G g = some r → GlobAt w S g r) → Calls P f #[x] w fun e w' => e = .returned rv ∧ Below w.heap.size w w') : SpecP P G f [.v x] r [] := by
  intro w S cargs hlt hg hargs
  match cargs, hargs with
  | [u], ⟨h1, _⟩ =>
    obtain ⟨rfl, k1⟩ := rv_v h1
    refine (h k1 w S hg).mono ?_
    rintro e w' ⟨rfl, hb⟩
    exact ⟨rv, S, noKeys, rfl, hb, fun _ h => h, fun _ h => .inl h, fun b h => Nat.lt_of_lt_of_le (hlt b h) hb.size, (fun _ _ _ _ h => by cases h), (fun _ _ h => by cases h), (fun _ _ h => by cases h), (fun _ _ h => by cases h), hr _ _⟩
theorem SpecP.below2 {P : Program} {G : Nat → Option GR} {f : FuncId} {x y : Value} {r : AV} {rv : Value} (hr : ∀ w S, RV w S noKeys r rv)
    (h : okAtom x → okAtom y → ∀ w (S : Nat → Prop), (∀ g r, G g = some r → GlobAt w S g r) → Calls P f #[x, y] w fun e w' => e = .returned rv ∧ Below w.heap.size w w') : SpecP P G f [.v x, .v y] r [] := by
  intro w S cargs hlt hg hargs
  match cargs, hargs with
  | [u, v], ⟨h1, h2, _⟩ =>
    obtain ⟨rfl, k1⟩ := rv_v h1
    obtain ⟨rfl, k2⟩ := rv_v h2
    refine (h k1 k2 w S hg).mono ?_
    rintro e w' ⟨rfl, hb⟩
    exact ⟨rv, S, noKeys, rfl, hb, fun _ h => h, fun _ h => .inl h, fun b h => Nat.lt_of_lt_of_le (hlt b h) hb.size, (fun _ _ _ _ h => by cases h), (fun _ _ h => by cases h), (fun _ _ h => by cases h), (fun _ _ h => by cases h), hr _ _⟩

theorem var_cells {P : Program} {w : World} {n : String} {cs : Array Value} {g : Nat} (hn : P.globalNamed n = some g) (h : w.var? P n = some cs) : ∃ ty o, w.heap[g]? = some (.cells cs ty o) := by
  simp only [World.var?, hn, Option.bind_some] at h
  split at h
  · rename_i hh
    cases h
    exact ⟨_, _, hh⟩
  · cases h
theorem glob_mk {w : World} {g : Nat} {cs : Array Value} {ty : TypeId} {o : Nat × Nat} {c : Array Value → Prop} (h : w.heap[g]? = some (.cells cs ty o)) (hc : c cs) : GlobAt w (Inn w) g ⟨[], c⟩ :=
  ⟨(Array.getElem?_eq_some_iff.1 h).1, cs, ty, o, h, fun j a ha => by simp at ha, hc⟩

theorem GlobAt.cell {w : World} {S : Nat → Prop} {g : Nat} {r : GR} (h : GlobAt w S g r) : ∃ cs, r.cond cs ∧ ∀ j, w.cell? ⟨g, j, none⟩ = cs[j]? := by
  obtain ⟨cs, ty, o, h1, h2⟩ := h.cells
  exact ⟨cs, h2, fun j => by simp [World.cell?, h1]⟩

end Go.Proofs.YtajmdlpanlbnjaaGreatDoor.M

namespace Go.Proofs.YtajmdlpanlbnjaaGreatDoor.M
open Go Go.RowKit
set_option linter.unusedVariables false
set_option linter.unusedSimpArgs false

theorem T.valb {α β : Type} : ∀ (x : T α) (g : α → T β), (x.bind g).val = x.val.bind fun a => (g a).val
  | .ret _, _ => rfl
  | .fail, _ => rfl
  | .ifB b x y, g => by
    cases b
    · exact T.valb y g
    · exact T.valb x g
  | .opt o f, g => by
    cases o with
    | none => rfl
    | some z => exact T.valb (f z) g

theorem T.bind_val {α β : Type} {x y : T α} {g h : α → T β} (h1 : x.val = y.val) (h2 : ∀ a, (g a).val = (h a).val) : (x.bind g).val = (y.bind h).val := by
  rw [T.valb, T.valb, h1]
  cases y.val with
  | none => rfl
  | some a => exact h2 a

theorem T.ifB_val {α : Type} {b : Bool} {x y x' y' : T α} (h1 : b = true → x.val = x'.val) (h2 : b = false → y.val = y'.val) : (T.ifB b x y).val = (T.ifB b x' y').val := by
  cases b
  · exact h2 rfl
  · exact h1 rfl

def setF : Tmps → Nat → AV → Tmps
  | [], _, _ => []
  | (k, x) :: r, n, v => match Nat.beq n k with
    | true => (k, v) :: r
    | false => (k, x) :: setF r n v

theorem setF_same : ∀ {t : Tmps} {d : Nat} {v : AV}, mget t d = some v → setF t d v = t
  | [], _, _, h => by cases h
  | (k, x) :: r, d, v, h => by
    unfold mget at h
    unfold setF
    split
    · rename_i hb
      rw [hb] at h
      simp only [Option.some.injEq] at h
      rw [h]
    · rename_i hb
      rw [hb] at h
      rw [setF_same h]

theorem setF_getT {t : Tmps} {d : Nat} {v : AV} (h : getT t d = v) (hv : v ≠ .unk) : setF t d v = t := by
  unfold getT at h
  split at h
  · rename_i a ha
    rw [h] at ha
    exact setF_same ha
  · exact absurd h.symm hv

def guardedR (E : Env) (s : St) (o : Oper) (d : Nat) (f want : Bool) (v1 v0 : AV) : T (St × Option (List Nat × List Nat)) :=
  match safeAt E s o d want with
  | true => match (eff E (ρOf E (some (d, want)) s.t) (mget s.h) o).val with
    | some p => match isFlat p.1 with
      | true => .ret (⟨setD s.t o.dst (.gd d f want p.1), s.h⟩, some ([], []))
      | false => .fail
    | none => .ifB f .fail (skipO ⟨setF s.t d v0, s.h⟩ o d want)
  | false => .ifB f (step1 E (some (d, want)) ⟨setF s.t d v1, s.h⟩ o) (skipO ⟨setF s.t d v0, s.h⟩ o d want)

theorem guardedR_val {E : Env} {s : St} {o : Oper} {d : Nat} {f want : Bool} {v1 v0 : AV} (h1 : f = true → setF s.t d v1 = s.t) (h0 : f = false → setF s.t d v0 = s.t) :
    (guardedR E s o d f want v1 v0).val = (guarded E s o d f want).val := by
  unfold guardedR guarded
  cases safeAt E s o d want with
  | true =>
    simp only
    cases (eff E (ρOf E (some (d, want)) s.t) (mget s.h) o).val with
    | some p => rfl
    | none => exact T.ifB_val (fun _ => rfl) (fun h => by rw [h0 h])
  | false => exact T.ifB_val (fun h => by rw [h1 h]) (fun h => by rw [h0 h])

def stepGR (E : Env) (ops : List Oper) (s : St) (o : Oper) : T (St × Option (List Nat × List Nat)) := match o.guard with
  | none => step1 E none s o
  | some (j, want) => match dstOf ops j with
    | some d => match getT s.t d with
      | .v (.bool b) => guardedR E s o d (asked b want) want (.v (.bool want)) (.v (.bool (!want)))
      | .gd j' f w (.v (.bool b)) => guardedR E s o d (f && asked b want) want (.gd j' true w (.v (.bool want))) (.gd j' f w (.v (.bool b)))
      | .gd _ f _ _ => .ifB f .fail (skipO s o d want)
      | _ => .fail
    | none => .fail

theorem stepGR_val {E : Env} {ops : List Oper} {s : St} {o : Oper} : (stepGR E ops s o).val = (stepG E ops s o).val := by
  unfold stepGR stepG
  cases o.guard with
  | none => rfl
  | some jw =>
    obtain ⟨j, want⟩ := jw
    simp only
    cases dstOf ops j with
    | none => rfl
    | some d =>
      simp only
      generalize hb : getT s.t d = x
      split
      · rename_i b
        refine guardedR_val (fun h => ?_) (fun h => ?_)
        · have : b = want := by cases b <;> cases want <;> simp [asked] at h <;> rfl
          subst this
          exact setF_getT hb (by simp)
        · have : b = !want := by cases b <;> cases want <;> simp [asked] at h <;> rfl
          subst this
          exact setF_getT hb (by simp)
      · rename_i j' f w b
        refine guardedR_val (fun h => ?_) (fun _ => setF_getT hb (by simp))
        rw [Bool.and_eq_true] at h
        obtain ⟨hf, h⟩ := h
        have : b = want := by cases b <;> cases want <;> simp [asked] at h <;> rfl
        subst this
        subst hf
        exact setF_getT hb (by simp)
      · split <;> first | rfl | (rename_i hq; cases hq; rfl) | (exfalso; grind)
      · split <;> first | rfl | (rename_i hq; cases hq; rfl) | (exfalso; grind)

def stepNR (E : Env) (ops : List Oper) (s : St) (o : Oper) : T (St × Option (List Nat × List Nat)) := match renewOf E s.t (mget s.h) o with
  | some p => kfin E s o.dst p
  | none => stepGR E ops (s.freezes (storeFrz E s.t (mget s.h) o)) o

theorem stepNR_val {E : Env} {ops : List Oper} {s : St} {o : Oper} : (stepNR E ops s o).val = (stepN E ops s o).val := by
  unfold stepNR stepN
  cases renewOf E s.t (mget s.h) o with
  | some p => rfl
  | none => exact stepGR_val

def stepsR (E : Env) (ops : List Oper) : List Oper → St → T St
  | [], s => .ret s
  | o :: r, s => (stepNR E ops s o).bind fun p => stepsR E ops r p.1

theorem stepsR_val {E : Env} {ops : List Oper} : ∀ {l : List Oper} {s : St}, (stepsR E ops l s).val = (steps E ops l s).val
  | [], _ => rfl
  | o :: r, s => T.bind_val stepNR_val fun _ => stepsR_val

def stepsDR (E : Env) (ops : List Oper) : List Oper → St → List FP → T St
  | [], s, tr => match chkAll ops tr && backOK 0 ops with
    | true => .ret s
    | false => .fail
  | o :: r, s, tr => (stepGR E ops s o).bind fun p => stepsDR E ops r p.1 (fpOf ops s o p.2 p.1 :: tr)

theorem stepsDR_val {E : Env} {ops : List Oper} : ∀ {l : List Oper} {s : St} {tr : List FP}, (stepsDR E ops l s tr).val = (stepsD E ops l s tr).val
  | [], _, _ => rfl
  | o :: r, s, tr => T.bind_val stepGR_val fun _ => stepsDR_val

def execR (E : Env) : Code → St → T (Ex × St)
  | .skip, s => done s
  | .region _ ops dr, s => match dr with
    | false => (stepsR E ops.toList ops.toList s).bind done
    | true => (stepsDR E ops.toList ops.toList s []).bind done
  | .seq x y, s => (execR E x s).bind fun p => match p.1 with
    | .normal => execR E y p.2
    | _ => .ret p
  | .cond c x y, s => match boolOf (ev E s.t c) with
    | some b => .ifB b (execR E x s) (execR E y s)
    | none => .fail
  | .block id x, s => (execR E x s).bind fun p => match p.1 with
    | .exit i => match Nat.beq i id with
      | true => .ret (.normal, p.2)
      | false => .ret p
    | _ => .ret p
  | .loop x, s => E.lp (lid x) s
  | .exit id, s => .ret (.exit id, s)
  | .ret, s => .ret (.ret, s)
  | _, _ => .fail

theorem execR_val {E : Env} (c : Code) : ∀ s, (execR E c s).val = (exec E c s).val := by
  induction c with
  | skip => intro s; rfl
  | region id ops dr =>
    intro s
    cases dr
    · exact T.bind_val stepsR_val fun _ => rfl
    · exact T.bind_val stepsDR_val fun _ => rfl
  | seq x y ihx ihy =>
    intro s
    refine T.bind_val (ihx s) fun p => ?_
    cases p.1
    · exact ihy p.2
    · rfl
    · rfl
  | cond c x y ihx ihy =>
    intro s
    show (match boolOf (ev E s.t c) with | some b => T.ifB b (execR E x s) (execR E y s) | none => .fail).val = (match boolOf (ev E s.t c) with | some b => T.ifB b (exec E x s) (exec E y s) | none => .fail).val
    cases boolOf (ev E s.t c) with
    | none => rfl
    | some b => exact T.ifB_val (fun _ => ihx s) (fun _ => ihy s)
  | block id x ih => intro s; exact T.bind_val (ih s) fun _ => rfl
  | loop x ih => intro s; rfl
  | _ => intros; rfl

theorem execR_bind {α : Type} {E : Env} (c : Code) (s : St) (g : Ex × St → T α) : ((execR E c s).bind g).val = ((exec E c s).bind g).val := T.bind_val (execR_val c s) fun _ => rfl

def runFR (E : Env) (keep : Bool) (fn : Func) (args : List AV) : T (AV × Heap) :=
  match fn.body with
  | none => .fail
  | some c => match dstsOK fn.ntmps c with
    | true => (execR E c ⟨numbered 0 (args.map noGd) [], []⟩).bind fun p => match p.1 with
      | .ret => (ress E p.2 fn.results.toList).bind fun us => finish keep p.2 (resAV us)
      | _ => .fail
    | false => .fail

theorem runFR_val {E : Env} {keep : Bool} {fn : Func} {args : List AV} : (runFR E keep fn args).val = (runF E keep fn args).val := by
  unfold runFR runF
  cases fn.body with
  | none => rfl
  | some c =>
    simp only
    cases dstsOK fn.ntmps c with
    | false => rfl
    | true => exact T.bind_val (execR_val _ _) fun _ => rfl

def runHR (E : Env) (mv : List Nat) (fn : Func) (args : List AV) (hin : Heap) : T (AV × Heap × List Nat) :=
  match fn.body with
  | none => .fail
  | some c => match dstsOK fn.ntmps c && (hin.map (·.1)).all (fun k => isIn k && (mv.elem k || !(E.mv k))) with
    | true => (execR E c ⟨numbered 0 (args.map noGd) [], hin⟩).bind fun p => match p.1 with
      | .exit _ => .fail
      | _ => (ress E p.2 fn.results.toList).bind fun us => finishH (hin.map (·.1)) mv p.2 (resAV us)
    | false => .fail

theorem runHR_val {E : Env} {mv : List Nat} {fn : Func} {args : List AV} {hin : Heap} : (runHR E mv fn args hin).val = (runH E mv fn args hin).val := by
  unfold runHR runH
  cases fn.body with
  | none => rfl
  | some c =>
    simp only
    cases dstsOK fn.ntmps c && (hin.map (·.1)).all (fun k => isIn k && (mv.elem k || !(E.mv k))) with
    | false => rfl
    | true => exact T.bind_val (execR_val _ _) fun _ => rfl

end Go.Proofs.YtajmdlpanlbnjaaGreatDoor.M

namespace Go.Proofs.YtajmdlpanlbnjaaGreatDoor.M
open Go Go.RowKit
set_option linter.unusedVariables false
set_option linter.unusedSimpArgs false
noncomputable def orcT {α : Type} (f : FuncId) (enc : α → List AV × Heap) (pre : α → Bool) (res : α → T (AV × Heap × List Nat)) : OrcH :=
  ⟨f, fun args h => .opt (unenc enc (args, h)) fun a => .ifB (pre a) (res a) .fail⟩
theorem orcT_ok {α : Type} {P : Program} {G : Nat → Option GR} {f : FuncId} {enc : α → List AV × Heap} {pre : α → Bool} {res : α → T (AV × Heap × List Nat)} (hh : Here P f)
    (h : ∀ a r, pre a = true → (∀ x ∈ (enc a).1, OkA x) → (∀ k bl, mget (enc a).2 k = some bl → OkK bl) → (res a).val = some r → SpecH P G f (enc a).1 (enc a).2 r.1 r.2.1 r.2.2) : OrcHOK P G (orcT f enc pre res) := by
  refine ⟨fun args hin r H mv hr => ?_, hh⟩
  simp only [orcT, T.opt_some] at hr
  obtain ⟨a, h1, h2⟩ := hr
  rw [T.ifB_some] at h2
  rcases h2 with ⟨h2, h3⟩ | ⟨h2, h3⟩
  · have e := unenc_some h1
    have := SpecH.ok (fun hok hokk => h a _ h2 hok hokk h3)
    rw [← e] at this
    exact this
  · rw [T.fail_some] at h3; exact h3.elim
theorem mkT_ok {α : Type} {P : Program} {E : Env} {f : FuncId} {mv : List Nat} {enc : α → List AV × Heap} {pre : α → Bool} {res : α → T (AV × Heap × List Nat)} (fn : Func) (hf : P.funcs[f]? = some fn)
    (hn : ((fn.name == "runtime.NumGoroutine") || fn.body.isNone) = false) (ok : EnvOK P E) (hm : P.follows .mixedOrders = true)
    (hlp : ∀ x ∈ Func.loops fn, ∀ s e s', (E.lp (lid x) s).val = some (e, s') → LoopOK E x s e s')
    (h : ∀ a r, pre a = true → (∀ x ∈ (enc a).1, OkA x) → (∀ k bl, mget (enc a).2 k = some bl → OkK bl) → (res a).val = some r → (runH E mv fn (enc a).1 (enc a).2).val = some r) : OrcHOK P E.glob (orcT f enc pre res) := by
  simp only [Bool.or_eq_false_iff] at hn
  exact orcT_ok ⟨fn, hf, hn.1, hn.2⟩ (fun a r h1 h2 h3 h4 => runH_sound ok hm hf hlp (mv := mv) (h a r h1 h2 h3 h4))
def unE0 : AV → AV
  | .e0 => .sl []
  | a => a
def Blk.unE0 (b : Blk) : Blk := match b.box with
  | true => ⟨true, b.ty, b.sz, b.rows.map (·.map M.unE0)⟩
  | false => b
def weakH (x : AV × Heap × List Nat) : AV × Heap × List Nat := (x.1, x.2.1.map fun p => (p.1, p.2.unE0), x.2.2)
theorem rc_unE0 {w : World} {S : Nat → Prop} {β : Nat → Option BI} {a : AV} {v : Value} (h : RC w S β a v) : RC w S β (unE0 a) v := by
  cases a
  case e0 =>
    obtain ⟨A, rfl⟩ := h
    exact R0.sl (rows := []) (A := A) (cap := 0) (size := 0) (b := 0) (off := 0) (vals := fun _ _ => undef) (Nat.le_refl _) (Nat.zero_le _) (fun h => absurd rfl h) (fun i row hi => by simp at hi) (fun i j row a hi => by simp at hi) (fun i j row a hi => by simp at hi)
  all_goals exact h
theorem SpecH.weak {P : Program} {G : Nat → Option GR} {f : FuncId} {args : List AV} {hin : Heap} {r : AV × Heap × List Nat} (h : SpecH P G f args hin r.1 r.2.1 r.2.2) : SpecH P G f args hin (weakH r).1 (weakH r).2.1 (weakH r).2.2 := by
  intro w S β cargs inv hargs
  refine (h w S β cargs inv hargs).mono ?_
  rintro e w' ⟨v, S', β', he, h1, h2, h3, inv', h4, h5⟩
  refine ⟨v, S', β', he, h1, h2, h3, ⟨inv'.base, inv'.lt, inv'.inj, inv'.new, fun k x hx => ?_, fun k bl hk => ?_, inv'.glob⟩, h4, h5⟩
  · obtain ⟨bl, a1, a2, a3⟩ := inv'.dom k x hx
    refine ⟨bl.unE0, by show mget (r.2.1.map fun p => (p.1, p.2.unE0)) k = _; rw [mget_map, a1]; rfl, fun hr => ?_, fun hr => ?_⟩
    · obtain ⟨cs, ty, c1, c2, c3, c4, c5, c6, c7, c8⟩ := a2 hr
      unfold Blk.unE0
      split
      · rename_i hb
        refine ⟨cs, ty, c1, c2, by simpa using c3, c4, c5, (fun hh => absurd hh (by simp)), (fun _ => c7 hb), (fun i row hi => ?_)⟩
        simp only [List.getElem?_map, Option.map_eq_some_iff] at hi
        obtain ⟨row0, hi0, rfl⟩ := hi
        obtain ⟨c9, c10⟩ := c8 i row0 hi0
        refine ⟨by simpa using c9, fun q y0 hq => ?_⟩
        simp only [List.getElem?_map, Option.map_eq_some_iff] at hq
        obtain ⟨y1, hq1, rfl⟩ := hq
        obtain ⟨v1, hv1, hr1⟩ := c10 q y1 hq1
        rw [hb] at hr1
        exact ⟨v1, hv1, rc_unE0 (by simpa using hr1)⟩
      · exact ⟨cs, ty, c1, c2, c3, c4, c5, c6, c7, c8⟩
    · obtain ⟨b1, b2⟩ := a3 hr
      unfold Blk.unE0
      rw [b2]
      exact ⟨b1, b2⟩
  · have hk : mget (r.2.1.map fun p => (p.1, p.2.unE0)) k = some bl := hk
    rw [mget_map, Option.map_eq_some_iff] at hk
    obtain ⟨b0, hb0, _⟩ := hk
    exact inv'.cov k b0 hb0
end Go.Proofs.YtajmdlpanlbnjaaGreatDoor.M

namespace Go.Proofs.YtajmdlpanlbnjaaGreatDoor
open Go Go.RowKit
set_option linter.unusedVariables false
set_option linter.unusedSimpArgs false
set_option maxHeartbeats 1000000

def F.cutH (s p : ByteArray) : ByteArray := ⟨(Lib.cut (F.bs s) (F.bs p)).1.toArray⟩

def F.cutT (s p : ByteArray) : ByteArray := ⟨(Lib.cut (F.bs s) (F.bs p)).2.1.toArray⟩

def F.cutF (s p : ByteArray) : Bool := (Lib.cut (F.bs s) (F.bs p)).2.2

theorem F.cutH_size (s p : ByteArray) : (F.cutH s p).size ≤ s.size := by
  have hl := F.bs_len s
  show (Lib.cut (F.bs s) (F.bs p)).1.toArray.size ≤ _
  unfold Lib.cut
  split
  · simp only [List.size_toArray, List.length_take]; omega
  · simp only [List.size_toArray]; omega

theorem F.cutT_size (s p : ByteArray) : (F.cutT s p).size ≤ s.size := by
  have hl := F.bs_len s
  show (Lib.cut (F.bs s) (F.bs p)).2.1.toArray.size ≤ _
  unfold Lib.cut
  split
  · simp only [List.size_toArray, List.length_drop]; omega
  · simp

theorem F.cutT_lt {s p : ByteArray} (hp : 1 ≤ p.size) (hs : s.size ≠ 0) : (F.cutT s p).size < s.size := by
  have hl := F.bs_len s
  have hl2 := F.bs_len p
  show (Lib.cut (F.bs s) (F.bs p)).2.1.toArray.size < _
  unfold Lib.cut
  split
  · simp only [List.size_toArray, List.length_drop]; omega
  · simp; omega

def F.nl : ByteArray := ⟨⟨[10]⟩⟩

theorem F.cutT_end {s : ByteArray} (h : F.cutF s F.nl = false) : (F.cutT s F.nl).size = 0 := by
  unfold F.cutF at h
  show (Lib.cut (F.bs s) (F.bs F.nl)).2.1.toArray.size = 0
  unfold Lib.cut at h ⊢
  split at h
  · cases h
  · rename_i hc
    rw [if_neg hc]; rfl

def F.split (s sep : ByteArray) : List ByteArray := Lib.splitB sep 0 (Lib.countB s sep) s

namespace M

theorem maxLen_of {w : World} {S : Nat → Prop} (hG : ∀ g r, noG g = some r → GlobAt w S g r) : ∃ m, w.cell? ⟨3, 0, none⟩ = some (.int .i64 m) := by
  obtain ⟨cs, ⟨m, h1⟩, h2⟩ := (hG 3 _ rfl).cell
  exact ⟨m, by rw [h2]; exact h1⟩

def encCut1 (s : ByteArray) (p : ByteArray) : List AV := [vS s, vS p]

def encCut (a : ByteArray × ByteArray) : List AV := encCut1 a.1 a.2

theorem encCut_inj (a a' : ByteArray × ByteArray) (h : encCut a = encCut a') : a = a' := by
  simp only [encCut, encCut1] at h
  try simp  at h
  grind

theorem unCut (s : ByteArray) (p : ByteArray) : unenc encCut ([(vS s), (vS p)]) = some (s, p) := unenc_of encCut_inj (s, p) rfl

def resCut1 (s : ByteArray) (p : ByteArray) : AV × Heap := (.tup [vS (F.cutH s p), vS (F.cutT s p), vB (F.cutF s p)], [])

def preCut1 (s : ByteArray) (p : ByteArray) : Bool := decide (s.size ≤ 4294967280)

noncomputable def oCut : Orc := orc 92 true encCut (fun a => preCut1 a.1 a.2) fun a => resCut1 a.1 a.2

theorem okCut : OrcOK Tryz.prog noG oCut := by
  refine orc_ok ⟨Tryz.f92, by kernel_rfl, by kernel_rfl, by kernel_rfl⟩ (fun x hp _ => ?_) (fun _ _ => ⟨rfl, rfl⟩)
  obtain ⟨s, p⟩ := x
  simp only [preCut1, decide_eq_true_eq] at hp
  have h1 := F.cutH_size s p
  have h2 := F.cutT_size s p
  refine SpecP.below2 (rv := .tuple #[.string (F.cutH s p), .string (F.cutT s p), .bool (F.cutF s p)]) (fun w S => ⟨[_, _, _], rfl, R0.v (by show (F.cutH s p).size ≤ 9223372036854775807; omega), R0.v (by show (F.cutT s p).size ≤ 9223372036854775807; omega), R0.v trivial, trivial⟩) fun hk _ w S hG => ?_
  obtain ⟨m, hm⟩ := maxLen_of hG
  refine (Tryz.strings_Cut s p m w (by omega) hm).mono ?_
  rintro e w' ⟨he, n, rfl⟩
  exact ⟨he, ⟨rfl, rfl, rfl, Nat.le_refl _, fun _ _ => rfl⟩⟩

end M

def F.dvA (acc : Nat) (l : List UInt8) : Nat := l.foldl (fun a c => a * 10 + (c.toNat - 48)) acc

theorem F.dvA_nil (acc : Nat) : F.dvA acc [] = acc := by unfold F.dvA; exact List.foldl_nil

theorem F.dvA_cons (acc : Nat) (c : UInt8) (r : List UInt8) : F.dvA acc (c :: r) = F.dvA (acc * 10 + (c.toNat - 48)) r := by unfold F.dvA; exact List.foldl_cons ..

def F.dgB (c : UInt8) : Bool := decide (48 ≤ c.toNat) && decide (c.toNat ≤ 57)

def F.dv (s : ByteArray) : Nat := F.dvA 0 (F.bs s)

theorem F.dvA_le : ∀ (l : List UInt8) (acc : Nat), acc ≤ F.dvA acc l
  | [], acc => by rw [F.dvA_nil]; exact Nat.le_refl _
  | c :: r, acc => by
    have := F.dvA_le r (acc * 10 + (c.toNat - 48))
    rw [F.dvA_cons]; omega

theorem F.dvA_app : ∀ (a b : List UInt8) (acc : Nat), F.dvA acc (a ++ b) = F.dvA (F.dvA acc a) b
  | [], b, acc => by rw [F.dvA_nil]; rfl
  | c :: a, b, acc => by rw [List.cons_append, F.dvA_cons, F.dvA_cons, F.dvA_app a b]

theorem F.dvA_acc : ∀ (l : List UInt8) (acc : Nat), F.dvA acc l = acc * 10 ^ l.length + F.dvA 0 l
  | [], acc => by rw [F.dvA_nil, F.dvA_nil, List.length_nil, Nat.pow_zero]; omega
  | c :: r, acc => by
    rw [F.dvA_cons, F.dvA_cons, F.dvA_acc r, F.dvA_acc r (0 * 10 + (c.toNat - 48)), Nat.zero_mul, Nat.zero_add, List.length_cons, Nat.pow_succ, Nat.add_mul, Nat.mul_assoc, Nat.mul_comm 10, Nat.add_assoc]

theorem F.dvA_lt : ∀ (l : List UInt8), l.all F.dgB = true → F.dvA 0 l < 10 ^ l.length
  | [], _ => by rw [F.dvA_nil]; decide
  | c :: r, h => by
    rw [List.all_cons, Bool.and_eq_true] at h
    have hc := h.1
    unfold F.dgB at hc
    simp only [Bool.and_eq_true, decide_eq_true_eq] at hc
    have ih := F.dvA_lt r h.2
    rw [F.dvA_cons, F.dvA_acc, List.length_cons, Nat.pow_succ]
    have : (0 * 10 + (c.toNat - 48)) * 10 ^ r.length ≤ 9 * 10 ^ r.length := Nat.mul_le_mul_right _ (by omega)
    omega

theorem F.pu_dvA : ∀ (l : List UInt8) (acc : Nat), l.all F.dgB = true → F.dvA acc l < 18446744073709551616 → Lib.parseUint10 acc l = .ok (F.dvA acc l)
  | [], acc, _, _ => by rw [F.dvA_nil]; rfl
  | c :: r, acc, h, hb => by
    rw [List.all_cons, Bool.and_eq_true] at h
    have hc := h.1
    unfold F.dgB at hc
    simp only [Bool.and_eq_true, decide_eq_true_eq] at hc
    rw [F.dvA_cons] at hb ⊢
    have := F.dvA_le r (acc * 10 + (c.toNat - 48))
    rw [Lib.parseUint10, if_pos ⟨by omega, by omega⟩, if_neg (by omega), if_neg (by omega), F.pu_dvA r _ h.2 hb]

def F.isD (s : ByteArray) : Bool := (F.bs s).all F.dgB && decide (0 < s.size) && decide (F.dv s ≤ 9223372036854775807)

theorem F.isD_ato {s : ByteArray} (h : F.isD s = true) : Lib.atoiAll s.data.toList = .ok ((F.dv s : Nat) : Int) := by
  unfold F.isD at h
  simp only [Bool.and_eq_true, decide_eq_true_eq] at h
  obtain ⟨⟨h1, h2⟩, h3⟩ := h
  have hl := F.bs_len s
  show Lib.atoiAll (F.bs s) = _
  unfold F.dv at h3 ⊢
  cases hs : F.bs s with
  | nil => rw [hs] at hl; simp at hl; omega
  | cons c r =>
    rw [hs] at h1 h3
    have hc := h1
    rw [List.all_cons, Bool.and_eq_true] at hc
    have hc := hc.1
    unfold F.dgB at hc
    simp only [Bool.and_eq_true, decide_eq_true_eq] at hc
    have hp : Lib.parseMag (c :: r) = .ok (F.dvA 0 (c :: r)) := by
      unfold Lib.parseMag
      rw [if_neg (by simp)]
      exact F.pu_dvA _ 0 h1 (by omega)
    rw [Lib.atoiAll_plain c r (by omega) (by omega), hp]
    unfold Lib.signless
    simp only []
    rw [if_neg (by omega)]

def F.numOk (s : ByteArray) (most : Int) : Bool := decide (s.size ≠ 0) && decide ((s.size : Int) ≤ most) && !(decide (F.b0 s = 48) && decide (1 < s.size)) && (F.bs s).all F.dgB

def F.numV (s : ByteArray) (most : Int) : Int := bif F.numOk s most then ((F.dv s : Nat) : Int) else 0

def F.uriL (u : ByteArray) : Bool := decide (u.size ≠ 0) && !decide (F.b0 u = 35)

def F.sp : ByteArray := ⟨⟨[32]⟩⟩

def F.kStr : ByteArray := ⟨⟨[35, 83, 84, 82, 69, 65, 77]⟩⟩

def F.wAt (w : List ByteArray) (i : Nat) : ByteArray := w.getD i ⟨#[]⟩

def F.undash (s : ByteArray) : ByteArray := bif F.seq s ⟨⟨[45]⟩⟩ then ⟨⟨[]⟩⟩ else s

def F.isStr (w : List ByteArray) : Bool := F.seq (F.wAt w 0) F.kStr && decide (w.length = 7)

theorem F.bsx {a b : ByteArray} (h : F.bs a = F.bs b) : a = b := ByteArray.ext (Array.ext' h)

theorem F.bs_mk (l : List UInt8) : F.bs ⟨l.toArray⟩ = l := by simp [F.bs]

theorem F.bs_app (a b : ByteArray) : F.bs (a ++ b) = F.bs a ++ F.bs b := by simp [F.bs]

theorem F.seq_iff {a b : ByteArray} : F.seq a b = true ↔ a = b := by
  unfold F.seq
  rw [beq_iff_eq, ByteArray.toList_eq, ByteArray.toList_eq]
  exact ⟨fun h => F.bsx h, fun h => by rw [h]⟩

theorem F.index_first {c : UInt8} : ∀ {x : List UInt8} {r : List UInt8}, c ∉ x → Lib.indexByte (x ++ c :: r) c = (x.length : Int)
  | [], r, _ => by simp [Lib.indexByte]
  | b :: x, r, h => by
    have hb : (b == c) = false := by
      simp only [beq_eq_false_iff_ne]
      intro e; exact h (by rw [e]; exact List.mem_cons_self ..)
    have ih := F.index_first (x := x) (r := r) (fun hm => h (List.mem_cons_of_mem _ hm))
    rw [List.cons_append, Lib.indexByte, hb, ih]
    have h2 : ((x.length : Int) == -1) = false := by
      rw [beq_eq_false_iff_ne]; omega
    rw [if_neg (by simp), if_neg (by simp [h2])]
    simp

theorem F.indexByte_at : ∀ {l : List UInt8} {c : UInt8} {i : Nat}, Lib.indexByte l c = i → l = l.take i ++ c :: l.drop (i + 1)
  | [], c, i, h => by
    have h : (-1 : Int) = i := h
    omega
  | b :: l, c, i, h => by
    unfold Lib.indexByte at h
    split at h
    · rename_i hb
      have : i = 0 := by omega
      subst this
      have hb : b = c := by simpa using hb
      simp [hb]
    · split at h
      · omega
      · rename_i hn
        have hn : Lib.indexByte l c ≠ -1 := by simpa using hn
        cases i with
        | zero =>
          have := Lib.indexByte_ge l c
          omega
        | succ i =>
          have ih := F.indexByte_at (l := l) (c := c) (i := i) (by omega)
          simp only [List.take_succ_cons, List.drop_succ_cons, List.cons_append]
          congr 1

end Go.Proofs.YtajmdlpanlbnjaaGreatDoor

namespace Go.Proofs.YtajmdlpanlbnjaaGreatDoor
open Go Go.RowKit Go.Sort
set_option linter.unusedVariables false
set_option linter.unusedSimpArgs false

def F.itoa (n : Int) : ByteArray := ⟨(Lib.itoa n).toArray⟩

theorem F.itoa_size {n : Int} (h0 : -9223372036854775808 ≤ n) (h1 : n ≤ 9223372036854775807) : (F.itoa n).size ≤ 21 := by
  have := Lib.itoa_length_le n h0 h1
  show (Lib.itoa n).toArray.size ≤ 21
  simpa using this

namespace M

theorem below_grow (w : World) (k : Nat) (os : Array Obj) : Below w.heap.size w (grow (w.drewN k) os) :=
  ⟨rfl, rfl, rfl, by first | (simp [grow]; done) | (simp [grow]; omega), fun i hi => by
    show ((w.drewN k).heap ++ os)[i]? = _
    rw [Array.getElem?_append_left (by show i < w.heap.size; omega)]
    rfl⟩

def encIta1 (n : Int) : List AV := [vI n]

def encIta (a : Int) : List AV := encIta1 a

theorem encIta_inj (a a' : Int) (h : encIta a = encIta a') : a = a' := by
  simp only [encIta, encIta1] at h
  try simp [strs_inj, ents_inj, eEnt_iff, eLst_iff] at h
  grind

theorem unIta (n : Int) : unenc encIta ([(vI n)]) = some (n) := unenc_of encIta_inj (n) rfl

def resIta1 (n : Int) : AV × Heap := (vS (F.itoa n), [])

def preIta1 (n : Int) : Bool := decide (-9223372036854775808 ≤ n) && decide (n ≤ 9223372036854775807)

noncomputable def oIta : Orc := orc 39 true encIta (fun a => preIta1 a) fun a => resIta1 a

theorem okIta : OrcOK Tryz.prog noG oIta := by
  refine orc_ok ⟨Tryz.f39, by kernel_rfl, by kernel_rfl, by kernel_rfl⟩ (fun n hp _ => ?_) (fun _ _ => ⟨rfl, rfl⟩)
  simp only [preIta1, Bool.and_eq_true, decide_eq_true_eq] at hp
  have hz := F.itoa_size hp.1 hp.2
  refine SpecP.below1 (fun w S => rv_mk (by show (F.itoa n).size ≤ 9223372036854775807; omega)) fun _ w S hG => ?_
  have hg := hG 2 ⟨[], fun cs => cs = (Lib.pow10Tab.map fun z => Value.int .u64 z).toArray⟩ rfl
  obtain ⟨cs, ty, o, h1, h2⟩ := hg.cells
  have htab : Lib.TabIs Tryz.prog w "internal/strconv.uint64pow10" .u64 Lib.pow10Tab := by
    have hn : Tryz.prog.globalNamed "internal/strconv.uint64pow10" = some 2 := by kernel_rfl
    simp only [Lib.TabIs, World.var?, hn, Option.bind_some, h1]
    rw [h2]
  refine (Tryz.strconv_Itoa n hp.1 hp.2 w htab).mono ?_
  rintro e w' ⟨he, k, os, rfl⟩
  exact ⟨he, below_grow w k os⟩

end M
end Go.Proofs.YtajmdlpanlbnjaaGreatDoor

namespace Go.Proofs.YtajmdlpanlbnjaaGreatDoor
open Go Go.RowKit
set_option linter.unusedVariables false
set_option linter.unusedSimpArgs false
set_option maxHeartbeats 1000000

theorem F.dd_lt {n : Nat} (h : n < 10) : Lib.decDigits n = [UInt8.ofNat (48 + n)] := by rw [Lib.decDigits, dif_pos h]

theorem F.dd_ge {n : Nat} (h : ¬ n < 10) : Lib.decDigits n = Lib.decDigits (n / 10) ++ [UInt8.ofNat (48 + n % 10)] := by rw [Lib.decDigits, dif_neg h]

theorem F.u8_dg {n : Nat} (h : n < 10) : (UInt8.ofNat (48 + n)).toNat = 48 + n := by rw [UInt8.toNat_ofNat']; omega

theorem F.dd_ok (n : Nat) : (Lib.decDigits n).all F.dgB = true ∧ F.dvA 0 (Lib.decDigits n) = n ∧ Lib.decDigits n ≠ [] := by
  induction n using Nat.strongRecOn with
  | ind n ih =>
    by_cases h : n < 10
    · have hn := F.u8_dg h
      rw [F.dd_lt h]
      refine ⟨?_, ?_, by simp⟩
      · simp only [List.all_cons, List.all_nil, Bool.and_true, F.dgB, hn, Bool.and_eq_true, decide_eq_true_eq]; omega
      · rw [F.dvA_cons, F.dvA_nil, hn]; omega
    · obtain ⟨i1, i2, i3⟩ := ih (n / 10) (by omega)
      have hn := F.u8_dg (n := n % 10) (by omega)
      rw [F.dd_ge h]
      refine ⟨?_, ?_, by simp⟩
      · rw [List.all_append, i1]
        simp only [List.all_cons, List.all_nil, Bool.and_true, F.dgB, hn, Bool.and_eq_true, decide_eq_true_eq, Bool.true_and]; omega
      · rw [F.dvA_app, i2, F.dvA_cons, F.dvA_nil, hn]; omega

theorem F.dd_len : ∀ (k n : Nat), n < 10 ^ (k + 1) → (Lib.decDigits n).length ≤ k + 1
  | 0, n, h => by rw [F.dd_lt (by simpa using h)]; exact Nat.le_refl _
  | k + 1, n, h => by
    by_cases h1 : n < 10
    · rw [F.dd_lt h1, List.length_singleton]; omega
    · have := F.dd_len k (n / 10) (by rw [Nat.pow_succ] at h; omega)
      rw [F.dd_ge h1, List.length_append, List.length_singleton]; omega

theorem F.dd_head (n : Nat) : 1 ≤ n → ∃ c r, Lib.decDigits n = c :: r ∧ 49 ≤ c.toNat := by
  induction n using Nat.strongRecOn with
  | ind n ih =>
    intro h
    by_cases h1 : n < 10
    · exact ⟨_, _, F.dd_lt h1, by rw [F.u8_dg h1]; omega⟩
    · obtain ⟨c, r, e, hc⟩ := ih (n / 10) (by omega) (by omega)
      exact ⟨c, r ++ [_], by rw [F.dd_ge h1, e]; rfl, hc⟩

theorem F.itoa_n (n : Nat) : F.bs (F.itoa (n : Int)) = Lib.decDigits n := by
  unfold F.bs F.itoa
  rw [Lib.itoa_nonneg]

theorem F.num_itoa_k {n : Int} {w : Nat} (h0 : 0 ≤ n) (h1 : n < ((10 ^ (w + 1) : Nat) : Int)) : F.numOk (F.itoa n) ((w + 1 : Nat) : Int) = true ∧ F.numV (F.itoa n) ((w + 1 : Nat) : Int) = n := by
  obtain ⟨k, rfl⟩ := Int.eq_ofNat_of_zero_le h0
  have hb := F.itoa_n k
  have hl := F.bs_len (F.itoa (k : Int))
  obtain ⟨d1, d2, d3⟩ := F.dd_ok k
  have d4 := F.dd_len w k (by exact_mod_cast h1)
  rw [hb] at hl
  have hp := List.length_pos_iff.2 d3
  have hz : (decide (F.b0 (F.itoa (k : Int)) = 48) && decide (1 < (F.itoa (k : Int)).size)) = false := by
    by_cases hk : k < 10
    · rw [F.dd_lt hk, List.length_singleton] at hl
      rw [decide_eq_false (by omega : ¬ 1 < (F.itoa (k : Int)).size), Bool.and_false]
    · obtain ⟨c, r, e, hc⟩ := F.dd_head k (by omega)
      have : F.b0 (F.itoa (k : Int)) = (c.toNat : Int) := by unfold F.b0; rw [hb, e]; rfl
      rw [this, decide_eq_false (by omega : ¬ (c.toNat : Int) = 48), Bool.false_and]
  have hok : F.numOk (F.itoa (k : Int)) ((w + 1 : Nat) : Int) = true := by
    unfold F.numOk
    rw [hz, hb, d1, decide_eq_true (by omega : (F.itoa (k : Int)).size ≠ 0), decide_eq_true (by omega : ((F.itoa (k : Int)).size : Int) ≤ ((w + 1 : Nat) : Int))]
    rfl
  refine ⟨hok, ?_⟩
  unfold F.numV F.dv
  rw [hok, hb, d2]
  rfl

namespace M

theorem drop_y {α : Type} {l : List α} {k : Nat} {y : α} (h : l[k]? = some y) : l.drop k = y :: l.drop (k + 1) := by
  obtain ⟨h1, rfl⟩ := List.getElem?_eq_some_iff.1 h
  exact List.drop_eq_getElem_cons h1

theorem nl_eq : (⟨⟨[10]⟩⟩ : ByteArray) = F.nl := rfl

theorem sp_eq : (⟨⟨[32]⟩⟩ : ByteArray) = F.sp := rfl

theorem evMor (s : ByteArray) (n : Int) : (runF en0 false Tryz.f71 [.pel [vS s, vI n] 0]).val =
  some ((vB !ByteArray.toList s == ByteArray.toList (ByteArray.mk (Array.mk []))), []) := (runFR_val).symm.trans (by kernel_rfl)

def encMor1 (s : ByteArray) (n : Int) : List AV := [.pel [vS s, vI n] 0]

def encMor (a : ByteArray × Int) : List AV := encMor1 a.1 a.2

theorem encMor_inj (a a' : ByteArray × Int) (h : encMor a = encMor a') : a = a' := by
  simp only [encMor, encMor1] at h
  try simp [strs_inj, ents_inj, eEnt_iff, eLst_iff] at h
  grind

theorem unMor (s : ByteArray) (n : Int) : unenc encMor ([AV.pel [(vS s), (vI n)] (0 : Nat)]) = some (s, n) := unenc_of encMor_inj (s, n) rfl

def resMor1 (s : ByteArray) (n : Int) : AV × Heap := (vB (decide (s.size ≠ 0)), [])

def preMor1 (s : ByteArray) (n : Int) : Bool := true

noncomputable def oMor : Orc := orc 71 true encMor (fun a => preMor1 a.1 a.2) fun a => resMor1 a.1 a.2

theorem okMor : OrcOK Tryz.prog noG oMor := by
  refine mk_ok Tryz.f71 (keep := false) (by kernel_rfl) (by kernel_rfl) en0_ok mixed (no_loops (by kernel_rfl)) (by first | exact fun _ _ => ⟨rfl, rfl⟩ | (intro h; cases h)) ?_
  rintro ⟨s, n⟩ hpre hok
  show (runF en0 false _ (encMor1 _ _)).val = some (resMor1 _ _)
  unfold encMor1 resMor1
  rw [evMor]
  simp only [etaEnt, etaLst, etaSnd, etaStrm, etaMas, Option.bind_some, List.length_map, unStrs, unInts, unBools, unEnts, unItms, unTrns, cond_true, cond_false, Bool.and_true, Bool.true_and, F.empty_eq, Bool.not_not]
  done

noncomputable def enTk : Env := envH ty noG lks [oCut] [] [] []

theorem enTk_ok : EnvOK Tryz.prog enTk := by
  refine envH_ok lks_ok ty_ok ?_ ?_
  · simp only [List.forall_mem_cons]
    exact ⟨okCut, by simp⟩
  · simp

theorem evTk (s : ByteArray) (n : Int) : (runH enTk [] Tryz.f70 [.ptr 900 0 0] [(900, ⟨true, 0, 0, [[vS s, vI n]]⟩)]).val =
  Option.bind (unenc encCut [(vS s), (vS (ByteArray.mk (Array.mk [(10 : UInt8)])))]) fun (z : ByteArray × ByteArray) => bif decide (ByteArray.size z.fst ≤ (4294967280 :
  Nat)) then some (AV.tup [(vS (F.cutH z.fst z.snd)), (vB (F.cutF z.fst z.snd))], [(900, Blk.mk true 0 0 [[(vS (F.cutT z.fst z.snd)), (vI (IntKind.wrap IntKind.i64 (n + (1 :
  Int))))]])], []) else none := (runHR_val).symm.trans (by kernel_rfl)

def encTk1 (s : ByteArray) (n : Int) : List AV × Heap := ([.ptr 900 0 0], [(900, ⟨true, 0, 0, [[vS s, vI n]]⟩)])

def encTk (a : ByteArray × Int) : List AV × Heap := encTk1 a.1 a.2

theorem encTk_inj (a a' : ByteArray × Int) (h : encTk a = encTk a') : a = a' := by
  simp only [encTk, encTk1] at h
  try simp [strs_inj, ents_inj, eEnt_iff, eLst_iff] at h
  grind

theorem unTk (s : ByteArray) (n : Int) : unenc encTk (([.ptr 900 0 0], [(900, Blk.mk true 0 0 [[(vS s), (vI n)]])])) = some (s, n) := unenc_of encTk_inj (s, n) rfl

def resTk1 (s : ByteArray) (n : Int) : AV × Heap × List Nat := (.tup [vS (F.cutH s F.nl), vB (F.cutF s F.nl)], [(900, ⟨true, 0, 0, [[vS (F.cutT s F.nl), vI (n + 1)]]⟩)], [])

def preTk1 (s : ByteArray) (n : Int) : Bool := decide (s.size ≤ 500000) && decide (0 ≤ n) && decide (n ≤ 1000000)

noncomputable def oTk : OrcH := orcH 70 encTk (fun a => preTk1 a.1 a.2) fun a => resTk1 a.1 a.2

theorem okTk : OrcHOK Tryz.prog noG oTk := by
  refine mkH_ok (mv := []) Tryz.f70 (by kernel_rfl) (by kernel_rfl) enTk_ok mixed (no_loops (by kernel_rfl)) ?_
  rintro ⟨s, n⟩ hpre hok hokh
  show (runH enTk [] _ (encTk1 _ _).1 (encTk1 _ _).2).val = some (resTk1 _ _)
  unfold encTk1 resTk1
  rw [evTk]
  simp only [preTk1, Bool.and_eq_true, decide_eq_true_eq] at hpre
  have w1 : IntKind.i64.wrap (n + 1) = n + 1 := wrap_id (by omega) (by omega)
  simp only [unCut, preCut1, etaEnt, etaLst, etaSnd, etaStrm, etaMas, Option.bind_some, List.length_map, unStrs, unInts, unBools, unEnts, unItms, unTrns, cond_true, cond_false, Bool.and_true, Bool.true_and, w1, nl_eq, decide_eq_true (by omega : s.size ≤ 4294967280)]
  done

def stNu (s : ByteArray) (acc : Nat) (k : Nat) : St := ⟨[(29, vI k), (28, vI s.size), (6, vI acc), (0, vS s)], []⟩

def stNu1 (a : ByteArray × Nat × Nat) : St := stNu a.1 a.2.1 a.2.2

theorem stNu_inj (a a' : ByteArray × Nat × Nat) (h : stNu1 a = stNu1 a') : a = a' := by
  simp only [stNu1, stNu] at h
  try simp [strs_inj, ents_inj, eEnt_iff, eLst_iff] at h
  grind

theorem unstNu (s : ByteArray) (acc : Nat) (k : Nat) : unenc stNu1 (St.mk [(29, (vI (↑k : Int))), (28, (vI (↑(ByteArray.size s) : Int))), (6, (vI (↑acc : Int))), (0, (vS s))] []) = some (s, acc, k) := unenc_of stNu_inj (s, acc, k) rfl

theorem unstNu0 (s : ByteArray)  : unenc stNu1 (St.mk [(29, (vI (0 : Int))), (28, (vI (↑(ByteArray.size s) : Int))), (6, (vI (0 : Int))), (0, (vS s))] []) = some (s, 0, 0) := unenc_of stNu_inj (s, 0, 0) rfl

def outNu (s : ByteArray) (acc : Nat) (k : Nat) : T (Ex × St) := .ifB (((F.bs s).drop k).all F.dgB) (.ret (.exit 0, ⟨[(6, vI (F.dvA acc ((F.bs s).drop k) : Nat))], []⟩)) (.ret (.ret, ⟨[(5, vB false), (4, vI 0)], []⟩))

noncomputable def prlNu (s : ByteArray) (acc : Nat) (k : Nat) : Bool := decide (s.size ≤ 18) && decide (k ≤ s.size) && decide (acc < 10 ^ k)

noncomputable def lpNu : Nat × (St → T (Ex × St)) := (5, lpo [29, 28, 6, 0] [] stNu1 (fun a => prlNu a.1 a.2.1 a.2.2) fun a => outNu a.1 a.2.1 a.2.2)

noncomputable def enNu : Env := envH ty noG lks [oDigit] [] [] [lpNu]

theorem enNu_ok : EnvOK Tryz.prog enNu := by
  refine envH_ok lks_ok ty_ok ?_ ?_
  · simp only [List.forall_mem_cons]
    exact ⟨okDigit, by simp⟩
  · simp

theorem evNuL (s : ByteArray) (acc : Nat) (k : Nat) : ((exec enNu (loopN Tryz.f74 0) (stNu s acc k)).bind (lessX ([29, 28, 6, 0], []) ([6], []) ([5, 4], []))).val =
  bif decide ((↑k : Int) < (↑(ByteArray.size s) : Int)) then Option.bind s[k]? fun (z : UInt8) => Option.bind (unenc encDigit [(vU (↑(UInt8.toNat z) : Int))]) fun (z : Int)
  => bif !F.digit z then some (Ex.ret, St.mk [(5, (vB false)), (4, (vI (0 : Int)))] []) else Option.bind s[k]? fun (z : UInt8) => some (Ex.normal, St.mk [(29, (vI
  (IntKind.wrap IntKind.i64 ((↑k : Int) + (1 : Int))))), (28, (vI (↑(ByteArray.size s) : Int))), (6, (vI (IntKind.wrap IntKind.i64 (IntKind.wrap IntKind.i64 ((10 : Int) *
  (↑acc : Int)) + IntKind.wrap IntKind.i64 (IntKind.wrap IntKind.u8 ((↑(UInt8.toNat z) : Int) - (48 : Int))))))), (0, (vS s))] []) else some (Ex.exit (0 : Nat), St.mk [(6,
  (vI (↑acc : Int)))] []) := (execR_bind _ _ _).symm.trans (by kernel_rfl)

theorem lpNu_ok (s : ByteArray) (acc : Nat) (k : Nat) (hp : prlNu s acc k = true) : ∀ ex s', (outNu s acc k).val = some (ex, s') → LoopOK enNu (loopN Tryz.f74 0) (stNu s acc k) ex s' := by
  simp only [prlNu, Bool.and_eq_true, decide_eq_true_eq] at hp
  obtain ⟨⟨h1, h2⟩, h3⟩ := hp
  refine loop_gen (st := fun p : Nat × Nat => stNu s p.1 p.2) (out := fun p => outNu s p.1 p.2) (I := fun p => p.2 ≤ s.size ∧ p.1 < 10 ^ p.2) (n := ([29, 28, 6, 0], [])) (e := ([6], [])) (r := ([5, 4], [])) (fun p => s.size - p.2) ?_ (acc, k) ⟨h2, h3⟩
  clear h2 h3
  rintro ⟨acc, k⟩ ⟨g1, g2⟩
  simp only at g1 g2
  have hl := F.bs_len s
  by_cases hlt : k < s.size
  · have hy : (F.bs s)[k]? = some ((F.bs s)[k]'(by omega)) := List.getElem?_eq_getElem (by omega)
    generalize (F.bs s)[k]'(by omega) = y at hy
    have hd := drop_y hy
    have hb : F.digit (y.toNat : Int) = F.dgB y := by
      unfold F.digit F.dgB
      by_cases a1 : 48 ≤ y.toNat <;> by_cases a2 : y.toNat ≤ 57 <;> simp [a1, a2] <;> omega
    cases hc : F.dgB y
    · left
      refine ⟨(.ret, ⟨[(5, vB false), (4, vI 0)], []⟩), ?_, ?_, by simp, rfl⟩
      · rw [evNuL]
        simp only [unDigit, preDigit1, unstNu, unstNu0, prlNu, outNu, etaEnt, etaLst, etaSnd, etaStrm, etaMas, Option.bind_some, List.length_map, unStrs, unInts, unBools, unEnts, unItms, unTrns, cond_true, cond_false, Bool.and_true, Bool.true_and, cast_lt hlt, F.bs_get, hy, hb, hc]
        rfl
      · simp only [outNu, hd, List.all_cons, hc]
        rfl
    · right
      have hc2 := hc
      unfold F.dgB at hc2
      simp only [Bool.and_eq_true, decide_eq_true_eq] at hc2
      have hp18 : 10 ^ (k + 1) ≤ 10 ^ 18 := Nat.pow_le_pow_right (by decide) (by omega)
      have hn : acc * 10 + (y.toNat - 48) < 10 ^ (k + 1) := by rw [Nat.pow_succ]; omega
      have w1 : IntKind.i64.wrap (10 * (acc : Int)) = 10 * (acc : Int) := wrap_id (by omega) (by omega)
      have w2 : IntKind.u8.wrap ((y.toNat : Int) - 48) = (y.toNat : Int) - 48 := by
        simp only [IntKind.wrap, IntKind.signed, IntKind.bits]
        simp
        omega
      have w3 : IntKind.i64.wrap ((y.toNat : Int) - 48) = (y.toNat : Int) - 48 := wrap_id (by omega) (by omega)
      have w4 : IntKind.i64.wrap (10 * (acc : Int) + ((y.toNat : Int) - 48)) = ((acc * 10 + (y.toNat - 48) : Nat) : Int) := by rw [wrap_id (by omega) (by omega)]; omega
      refine ⟨(acc * 10 + (y.toNat - 48), k + 1), ?_, rfl, ⟨by simp only; omega, hn⟩, by simp only; omega, ?_⟩
      · rw [evNuL]
        simp only [unDigit, preDigit1, unstNu, unstNu0, prlNu, outNu, etaEnt, etaLst, etaSnd, etaStrm, etaMas, Option.bind_some, List.length_map, unStrs, unInts, unBools, unEnts, unItms, unTrns, cond_true, cond_false, Bool.and_true, Bool.true_and, cast_lt hlt, F.bs_get, hy, hb, hc, w1, w2, w3, w4, next_at hlt (by omega : s.size ≤ 9223372036854775807), stNu]
        try rfl
      · simp only [outNu, hd, List.all_cons, hc, Bool.true_and, F.dvA_cons]
  · have : k = s.size := by omega
    subst this
    have hd : (F.bs s).drop s.size = [] := List.drop_eq_nil_of_le (by omega)
    left
    refine ⟨(.exit 0, ⟨[(6, vI acc)], []⟩), ?_, ?_, by simp, rfl⟩
    · rw [evNuL]; simp
    · simp only [outNu, hd, List.all_nil, F.dvA_nil]
      rfl

theorem evNum (s : ByteArray) (most : Int) : (runF enNu false Tryz.f74 [vS s, vI most]).val =
  bif !bif (↑(ByteArray.size s) : Int) == (0 : Int) then true else decide (most < (↑(ByteArray.size s) : Int)) then Option.bind s[(0 : Nat)]? fun (z : UInt8) => bif bif
  (↑(UInt8.toNat z) : Int) == (48 : Int) then decide ((1 : Int) < (↑(ByteArray.size s) : Int)) else false then some (AV.tup [(vI (0 : Int)), (vB false)], []) else
  Option.bind (unenc stNu1 (St.mk [(29, (vI (0 : Int))), (28, (vI (↑(ByteArray.size s) : Int))), (6, (vI (0 : Int))), (0, (vS s))] [])) fun (z : ByteArray × Nat × Nat) =>
  bif decide (ByteArray.size z.fst ≤ (18 : Nat)) && decide (z.snd.snd ≤ ByteArray.size z.fst) && decide (z.snd.fst < (10 : Nat) ^ z.snd.snd) && true then bif List.all
  (List.drop z.snd.snd (F.bs z.fst)) F.dgB then some (AV.tup [(vI (↑(F.dvA z.snd.fst (List.drop z.snd.snd (F.bs z.fst))) : Int)), (vB true)], []) else some (AV.tup [(vI (0 :
  Int)), (vB false)], []) else none else some (AV.tup [(vI (0 : Int)), (vB false)], []) := (runFR_val).symm.trans (by kernel_rfl)

def encNum1 (s : ByteArray) (most : Int) : List AV := [vS s, vI most]

def encNum (a : ByteArray × Int) : List AV := encNum1 a.1 a.2

theorem encNum_inj (a a' : ByteArray × Int) (h : encNum a = encNum a') : a = a' := by
  simp only [encNum, encNum1] at h
  try simp [strs_inj, ents_inj, eEnt_iff, eLst_iff] at h
  grind

theorem unNum (s : ByteArray) (most : Int) : unenc encNum ([(vS s), (vI most)]) = some (s, most) := unenc_of encNum_inj (s, most) rfl

def resNum1 (s : ByteArray) (most : Int) : AV × Heap := (.tup [vI (F.numV s most), vB (F.numOk s most)], [])

def preNum1 (s : ByteArray) (most : Int) : Bool := decide (most ≤ 18)

noncomputable def oNum : Orc := orc 74 true encNum (fun a => preNum1 a.1 a.2) fun a => resNum1 a.1 a.2

theorem okNum : OrcOK Tryz.prog noG oNum := by
  refine mk_ok Tryz.f74 (keep := false) (by kernel_rfl) (by kernel_rfl) enNu_ok mixed (one_loop (x0 := loopN Tryz.f74 0) (by kernel_rfl) (lpo_ok ?_)) (by first | exact fun _ _ => ⟨rfl, rfl⟩ | (intro h; cases h)) ?_
  · rintro ⟨s, acc, k⟩ hp
    exact lpNu_ok s acc k hp
  rintro ⟨s, most⟩ hpre hok
  show (runF enNu false _ (encNum1 _ _)).val = some (resNum1 _ _)
  unfold encNum1 resNum1
  rw [evNum]
  have hpre : most ≤ 18 := of_decide_eq_true hpre
  have h0 := F.bs_len s
  simp only [unDigit, preDigit1, unstNu, unstNu0, prlNu, outNu, etaEnt, etaLst, etaSnd, etaStrm, etaMas, Option.bind_some, List.length_map, unStrs, unInts, unBools, unEnts, unItms, unTrns, cond_true, cond_false, Bool.and_true, Bool.true_and, List.drop_zero, Nat.zero_le, decide_true, (by decide : decide (0 < 10 ^ 0) = true)]
  unfold F.numV F.numOk
  by_cases hz : s.size = 0
  · have e1 : ((s.size : Int) == 0) = true := by simp [hz]
    rw [e1, decide_eq_false (by omega : ¬ s.size ≠ 0)]
    rfl
  · have e1 : ((s.size : Int) == 0) = false := by simp [hz]
    rw [e1, decide_eq_true hz]
    by_cases hm : most < (s.size : Int)
    · rw [decide_eq_true hm, decide_eq_false (by omega : ¬ (s.size : Int) ≤ most)]
      simp
    · rw [decide_eq_false hm, decide_eq_true (by omega : (s.size : Int) ≤ most), decide_eq_true (by omega : s.size ≤ 18)]
      have hb : (F.bs s)[0]? = some ((F.bs s)[0]'(by omega)) := List.getElem?_eq_getElem (by omega)
      generalize (F.bs s)[0]'(by omega) = b at hb
      have hb0 : F.b0 s = (b.toNat : Int) := by unfold F.b0; rw [hb]
      have hs0 : s[0]? = some b := by rw [F.bs_get]; exact hb
      have e2 : decide ((1 : Int) < (s.size : Int)) = decide (1 < s.size) := decide_eq_decide.2 (by omega)
      have e3 : ((b.toNat : Int) == 48) = decide ((b.toNat : Int) = 48) := by by_cases h : (b.toNat : Int) = 48 <;> simp [h]
      have hdv : F.dv s = F.dvA 0 (F.bs s) := rfl
      rw [hb0, hs0, hdv]
      simp only [e2, e3, Option.bind_some, Bool.not_false, Bool.true_and, cond_false, cond_true]
      cases decide ((b.toNat : Int) = 48) <;> cases decide (1 < s.size) <;> cases (F.bs s).all F.dgB <;> rfl

theorem evUnd (s : ByteArray) : (runF en0 false Tryz.f115 [vS s]).val =
  bif ByteArray.toList s == ByteArray.toList (ByteArray.mk (Array.mk [(45 : UInt8)])) then some ((vS (ByteArray.mk (Array.mk []))), []) else some ((vS s), []) := (runFR_val).symm.trans (by kernel_rfl)

def encUnd1 (s : ByteArray) : List AV := [vS s]

def encUnd (a : ByteArray) : List AV := encUnd1 a

theorem encUnd_inj (a a' : ByteArray) (h : encUnd a = encUnd a') : a = a' := by
  simp only [encUnd, encUnd1] at h
  try simp [strs_inj, ents_inj, eEnt_iff, eLst_iff] at h
  grind

theorem unUnd (s : ByteArray) : unenc encUnd ([(vS s)]) = some (s) := unenc_of encUnd_inj (s) rfl

def resUnd1 (s : ByteArray) : AV × Heap := (vS (F.undash s), [])

def preUnd1 (s : ByteArray) : Bool := true

noncomputable def oUnd : Orc := orc 115 true encUnd (fun a => preUnd1 a) fun a => resUnd1 a

theorem okUnd : OrcOK Tryz.prog noG oUnd := by
  refine mk_ok Tryz.f115 (keep := false) (by kernel_rfl) (by kernel_rfl) en0_ok mixed (no_loops (by kernel_rfl)) (by first | exact fun _ _ => ⟨rfl, rfl⟩ | (intro h; cases h)) ?_
  rintro s hpre hok
  show (runF en0 false _ (encUnd1 _)).val = some (resUnd1 _)
  unfold encUnd1 resUnd1
  rw [evUnd]
  simp only [etaEnt, etaLst, etaSnd, etaStrm, etaMas, Option.bind_some, List.length_map, unStrs, unInts, unBools, unEnts, unItms, unTrns, cond_true, cond_false, Bool.and_true, Bool.true_and, F.undash, F.seq]
  cases s.toList == (⟨⟨[45]⟩⟩ : ByteArray).toList <;> rfl

end M

theorem F.isD_le {s : ByteArray} (h : F.isD s = true) : F.dv s ≤ 9223372036854775807 := by
  unfold F.isD at h
  simp only [Bool.and_eq_true, decide_eq_true_eq] at h
  exact h.2

def F.dot : ByteArray := ⟨⟨[46]⟩⟩

def F.milOk (s : ByteArray) : Bool := F.numOk (F.cutH s F.dot) 16 && F.cutF s F.dot && decide ((F.cutT s F.dot).size = 3) && (F.bs (F.cutT s F.dot)).all F.dgB

def F.milV (s : ByteArray) : Int := bif F.milOk s then min (F.numV (F.cutH s F.dot) 16) 1000000000000000 * 1000 + (F.dv (F.cutT s F.dot) : Nat) else 0

namespace M

def encAto1 (s : ByteArray) : List AV := [vS s]

def encAto (a : ByteArray) : List AV := encAto1 a

theorem encAto_inj (a a' : ByteArray) (h : encAto a = encAto a') : a = a' := by
  simp only [encAto, encAto1] at h
  try simp [strs_inj, ints_inj, ents_inj, eEnt_iff, eLst_iff, eSnds_inj, eStrms_inj] at h
  grind

theorem unAto (s : ByteArray) : unenc encAto ([(vS s)]) = some (s) := unenc_of encAto_inj (s) rfl

def resAto1 (s : ByteArray) : AV × Heap := (.tup [vI (F.dv s : Nat), .v .nilIface], [])

def preAto1 (s : ByteArray) : Bool := F.isD s && decide (s.size ≤ 1000)

noncomputable def oAto : Orc := orc 132 true encAto (fun a => preAto1 a) fun a => resAto1 a

theorem okAto : OrcOK Tryz.prog noG oAto := by
  refine orc_ok ⟨Tryz.f132, by kernel_rfl, by kernel_rfl, by kernel_rfl⟩ (fun s hp _ => ?_) (fun _ _ => ⟨rfl, rfl⟩)
  simp only [preAto1, Bool.and_eq_true, decide_eq_true_eq] at hp
  have h1 := F.isD_ato hp.1
  have h2 := F.isD_le hp.1
  refine SpecP.below1 (rv := .tuple #[.int .i64 (F.dv s : Nat), .nilIface]) (fun w S => ⟨[_, _], rfl, R0.v (by simp only [okAtom, IntKind.min, IntKind.max, IntKind.signed, IntKind.bits]; simp; omega), R0.v trivial, trivial⟩) fun hk w S hG => ?_
  refine (Tryz.strconv_Atoi_ok s (by omega) (F.dv s : Nat) h1 w).mono ?_
  rintro e w' ⟨he, h | ⟨t, h⟩⟩
  · subst h; exact ⟨he, Below.refl _ _⟩
  · subst h; exact ⟨he, Lib.bytesWorld_below w _ _⟩

end M

def F.leap (y : Int) : Bool := bif (bif (y.tmod 4 == 0) then !(y.tmod 100 == 0) else false) then true else y.tmod 400 == 0

def F.mdays (y m : Int) : Int := bif m == 2 then (bif F.leap y then 29 else 28) else bif m == 4 || m == 6 || m == 9 || m == 11 then 30 else 31

def F.ydays (y : Int) : Int := 365 * (y - 1970) + ((y - 1).tdiv 4 - 492) - ((y - 1).tdiv 100 - 19) + ((y - 1).tdiv 400 - 4)

namespace M

theorem evLep (y : Int) : (runF en0 false Tryz.f96 [vI y]).val =
  bif Int.tmod y (4 : Int) == (0 : Int) then bif !Int.tmod y (100 : Int) != (0 : Int) then some ((vB (Int.tmod y (400 : Int) == (0 : Int))), []) else some ((vB true), [])
  else some ((vB (Int.tmod y (400 : Int) == (0 : Int))), []) := (runFR_val).symm.trans (by kernel_rfl)

def encLep1 (y : Int) : List AV := [vI y]

def encLep (a : Int) : List AV := encLep1 a

theorem encLep_inj (a a' : Int) (h : encLep a = encLep a') : a = a' := by
  simp only [encLep, encLep1] at h
  try simp [strs_inj, ints_inj, ents_inj, eEnt_iff, eLst_iff, eSnds_inj, eStrms_inj] at h
  grind

theorem unLep (y : Int) : unenc encLep ([(vI y)]) = some (y) := unenc_of encLep_inj (y) rfl

def resLep1 (y : Int) : AV × Heap := (vB (F.leap y), [])

def preLep1 (y : Int) : Bool := decide (0 ≤ y) && decide (y ≤ 100000)

noncomputable def oLep : Orc := orc 96 true encLep (fun a => preLep1 a) fun a => resLep1 a

theorem okLep : OrcOK Tryz.prog noG oLep := by
  refine mk_ok Tryz.f96 (keep := false) (by kernel_rfl) (by kernel_rfl) en0_ok mixed (no_loops (by kernel_rfl)) (by first | exact fun _ _ => ⟨rfl, rfl⟩ | (intro h; cases h)) ?_
  rintro y hpre hok
  show (runF en0 false _ (encLep1 _)).val = some (resLep1 _)
  unfold encLep1 resLep1
  rw [evLep]
  have hpre : (decide (0 ≤ y) && decide (y ≤ 100000)) = true := hpre
  simp only [Bool.and_eq_true, decide_eq_true_eq] at hpre
  simp only [etaEnt, etaLst, etaSnd, etaStrm, etaMas, Option.bind_some, List.length_map, unStrs, unInts, unBools, unEnts, unItms, unTrns, cond_true, cond_false, Bool.and_true, Bool.true_and, F.leap, bne]
  cases y.tmod 4 == 0 <;> cases y.tmod 100 == 0 <;> rfl

noncomputable def enMdy : Env := envH ty noG lks [oLep] [] [] []

theorem enMdy_ok : EnvOK Tryz.prog enMdy := by
  refine envH_ok lks_ok ty_ok ?_ ?_
  · simp only [List.forall_mem_cons]
    exact ⟨okLep, by simp⟩
  · simp

theorem evMdy (y : Int) (m : Int) : (runF enMdy false Tryz.f77 [vI y, vI m]).val =
  bif m == (2 : Int) then Option.bind (unenc encLep [(vI y)]) fun (z : Int) => bif decide ((0 : Int) ≤ z) && decide (z ≤ (100000 : Int)) then bif F.leap z then some ((vI (29
  : Int)), []) else some ((vI (28 : Int)), []) else none else bif m == (4 : Int) then bif m == (4 : Int) then some ((vI (30 : Int)), []) else some ((vI (31 : Int)), []) else
  bif m == (6 : Int) then bif m == (6 : Int) then some ((vI (30 : Int)), []) else some ((vI (31 : Int)), []) else bif m == (9 : Int) then bif m == (9 : Int) then some ((vI
  (30 : Int)), []) else some ((vI (31 : Int)), []) else bif m == (11 : Int) then some ((vI (30 : Int)), []) else some ((vI (31 : Int)), []) := (runFR_val).symm.trans (by kernel_rfl)

def encMdy1 (y : Int) (m : Int) : List AV := [vI y, vI m]

def encMdy (a : Int × Int) : List AV := encMdy1 a.1 a.2

theorem encMdy_inj (a a' : Int × Int) (h : encMdy a = encMdy a') : a = a' := by
  simp only [encMdy, encMdy1] at h
  try simp [strs_inj, ints_inj, ents_inj, eEnt_iff, eLst_iff, eSnds_inj, eStrms_inj] at h
  grind

theorem unMdy (y : Int) (m : Int) : unenc encMdy ([(vI y), (vI m)]) = some (y, m) := unenc_of encMdy_inj (y, m) rfl

def resMdy1 (y : Int) (m : Int) : AV × Heap := (vI (F.mdays y m), [])

def preMdy1 (y : Int) (m : Int) : Bool := decide (0 ≤ y) && decide (y ≤ 100000)

noncomputable def oMdy : Orc := orc 77 true encMdy (fun a => preMdy1 a.1 a.2) fun a => resMdy1 a.1 a.2

theorem okMdy : OrcOK Tryz.prog noG oMdy := by
  refine mk_ok Tryz.f77 (keep := false) (by kernel_rfl) (by kernel_rfl) enMdy_ok mixed (no_loops (by kernel_rfl)) (by first | exact fun _ _ => ⟨rfl, rfl⟩ | (intro h; cases h)) ?_
  rintro ⟨y, m⟩ hpre hok
  show (runF enMdy false _ (encMdy1 _ _)).val = some (resMdy1 _ _)
  unfold encMdy1 resMdy1
  rw [evMdy]
  have hpre : (decide (0 ≤ y) && decide (y ≤ 100000)) = true := hpre
  rw [Bool.and_eq_true] at hpre
  simp only [unLep, preLep1, etaEnt, etaLst, etaSnd, etaStrm, etaMas, Option.bind_some, List.length_map, unStrs, unInts, unBools, unEnts, unItms, unTrns, cond_true, cond_false, Bool.and_true, Bool.true_and, F.mdays, hpre.1, hpre.2]
  cases m == 2 <;> cases m == 4 <;> cases m == 6 <;> cases m == 9 <;> cases m == 11 <;> cases F.leap y <;> rfl

theorem evYdy (y : Int) : (runF en0 false Tryz.f76 [vI y]).val =
  some ((vI (IntKind.wrap IntKind.i64 (IntKind.wrap IntKind.i64 (IntKind.wrap IntKind.i64 (IntKind.wrap IntKind.i64 ((365 : Int) * IntKind.wrap IntKind.i64 (y - (1970 :
  Int))) + IntKind.wrap IntKind.i64 (IntKind.wrap IntKind.i64 (Int.tdiv (IntKind.wrap IntKind.i64 (y - (1 : Int))) (4 : Int)) - (492 : Int))) - IntKind.wrap IntKind.i64
  (IntKind.wrap IntKind.i64 (Int.tdiv (IntKind.wrap IntKind.i64 (y - (1 : Int))) (100 : Int)) - (19 : Int))) + IntKind.wrap IntKind.i64 (IntKind.wrap IntKind.i64 (Int.tdiv
  (IntKind.wrap IntKind.i64 (y - (1 : Int))) (400 : Int)) - (4 : Int))))), []) := (runFR_val).symm.trans (by kernel_rfl)

def encYdy1 (y : Int) : List AV := [vI y]

def encYdy (a : Int) : List AV := encYdy1 a

theorem encYdy_inj (a a' : Int) (h : encYdy a = encYdy a') : a = a' := by
  simp only [encYdy, encYdy1] at h
  try simp [strs_inj, ints_inj, ents_inj, eEnt_iff, eLst_iff, eSnds_inj, eStrms_inj] at h
  grind

theorem unYdy (y : Int) : unenc encYdy ([(vI y)]) = some (y) := unenc_of encYdy_inj (y) rfl

def resYdy1 (y : Int) : AV × Heap := (vI (F.ydays y), [])

def preYdy1 (y : Int) : Bool := decide (1970 ≤ y) && decide (y ≤ 9999)

noncomputable def oYdy : Orc := orc 76 true encYdy (fun a => preYdy1 a) fun a => resYdy1 a

theorem okYdy : OrcOK Tryz.prog noG oYdy := by
  refine mk_ok Tryz.f76 (keep := false) (by kernel_rfl) (by kernel_rfl) en0_ok mixed (no_loops (by kernel_rfl)) (by first | exact fun _ _ => ⟨rfl, rfl⟩ | (intro h; cases h)) ?_
  rintro y hpre hok
  show (runF en0 false _ (encYdy1 _)).val = some (resYdy1 _)
  unfold encYdy1 resYdy1
  rw [evYdy]
  have hpre : (decide (1970 ≤ y) && decide (y ≤ 9999)) = true := hpre
  simp only [Bool.and_eq_true, decide_eq_true_eq] at hpre
  have h1 : 0 ≤ (y - 1).tdiv 4 ∧ (y - 1).tdiv 4 ≤ 10000 := by rw [Int.tdiv_eq_ediv_of_nonneg (by omega)]; omega
  have h2 : 0 ≤ (y - 1).tdiv 100 ∧ (y - 1).tdiv 100 ≤ 10000 := by rw [Int.tdiv_eq_ediv_of_nonneg (by omega)]; omega
  have h3 : 0 ≤ (y - 1).tdiv 400 ∧ (y - 1).tdiv 400 ≤ 10000 := by rw [Int.tdiv_eq_ediv_of_nonneg (by omega)]; omega
  have w0 : IntKind.i64.wrap (y - 1) = y - 1 := wrap_id (by omega) (by omega)
  have w1 : IntKind.i64.wrap (y - 1970) = y - 1970 := wrap_id (by omega) (by omega)
  have w2 : IntKind.i64.wrap (365 * (y - 1970)) = 365 * (y - 1970) := wrap_id (by omega) (by omega)
  simp only [etaEnt, etaLst, etaSnd, etaStrm, etaMas, Option.bind_some, List.length_map, unStrs, unInts, unBools, unEnts, unItms, unTrns, cond_true, cond_false, Bool.and_true, Bool.true_and, w0, w1, w2, F.ydays]
  generalize (y - 1).tdiv 4 = a at *
  generalize (y - 1).tdiv 100 = b at *
  generalize (y - 1).tdiv 400 = c at *
  simp (disch := omega) only [wrap_id]

end M

theorem F.dg_digit (y : UInt8) : F.digit (y.toNat : Int) = F.dgB y := by
  unfold F.digit F.dgB
  by_cases a1 : 48 ≤ y.toNat <;> by_cases a2 : y.toNat ≤ 57 <;> simp [a1, a2] <;> omega

theorem F.isD_of {s : ByteArray} (h0 : 0 < s.size) (h1 : s.size ≤ 18) (ha : (F.bs s).all F.dgB = true) : F.isD s = true := by
  have hl := F.bs_len s
  have hlt := F.dvA_lt _ ha
  rw [hl] at hlt
  have hp18 : 10 ^ s.size ≤ 10 ^ 18 := Nat.pow_le_pow_right (by decide) h1
  unfold F.isD F.dv
  rw [ha, decide_eq_true h0, decide_eq_true (by omega)]
  rfl

theorem F.dv_lt {s : ByteArray} (h1 : s.size = 3) (ha : (F.bs s).all F.dgB = true) : F.dv s < 1000 := by
  have hlt := F.dvA_lt _ ha
  rw [F.bs_len, h1] at hlt
  exact hlt

theorem F.numV_nn (s : ByteArray) (k : Int) : 0 ≤ F.numV s k := by
  unfold F.numV
  cases F.numOk s k
  · exact Int.le_refl _
  · exact Int.natCast_nonneg _

namespace M

def stMil (b : ByteArray) (n : Int) (k : Nat) : St := ⟨[(36, vI k), (35, vI b.size), (7, vI n), (5, vS b)], []⟩

def stMil1 (a : ByteArray × Int × Nat) : St := stMil a.1 a.2.1 a.2.2

theorem stMil_inj (a a' : ByteArray × Int × Nat) (h : stMil1 a = stMil1 a') : a = a' := by
  simp only [stMil1, stMil] at h
  try simp [strs_inj, ints_inj, ents_inj, eEnt_iff, eLst_iff, eSnds_inj, eStrms_inj] at h
  grind

theorem unstMil (b : ByteArray) (n : Int) (k : Nat) : unenc stMil1 (St.mk [(36, (vI (↑k : Int))), (35, (vI (↑(ByteArray.size b) : Int))), (7, (vI n)), (5, (vS b))] []) = some (b, n, k) := unenc_of stMil_inj (b, n, k) rfl

theorem unstMil0 (b : ByteArray) (n : Int)  : unenc stMil1 (St.mk [(36, (vI (0 : Int))), (35, (vI (↑(ByteArray.size b) : Int))), (7, (vI n)), (5, (vS b))] []) = some (b, n, 0) := unenc_of stMil_inj (b, n, 0) rfl

def outMil (b : ByteArray) (n : Int) (k : Nat) : T (Ex × St) := .ifB (((F.bs b).drop k).all F.dgB) (.ret (.exit 0, ⟨[(7, vI n), (5, vS b)], []⟩)) (.ret (.ret, ⟨[(3, vB false), (2, vI 0)], []⟩))

noncomputable def prlMil (b : ByteArray) (n : Int) (k : Nat) : Bool := decide (b.size ≤ 1000) && decide (k ≤ b.size)

noncomputable def lpMil : Nat × (St → T (Ex × St)) := (6, lpo [36, 35, 7, 5] [] stMil1 (fun a => prlMil a.1 a.2.1 a.2.2) fun a => outMil a.1 a.2.1 a.2.2)

noncomputable def enMil : Env := envH ty noG lks [oCut, oNum, oDigit, oAto] [] [] [lpMil]

theorem enMil_ok : EnvOK Tryz.prog enMil := by
  refine envH_ok lks_ok ty_ok ?_ ?_
  · simp only [List.forall_mem_cons]
    exact ⟨okCut, okNum, okDigit, okAto, by simp⟩
  · simp

theorem evMilL (b : ByteArray) (n : Int) (k : Nat) : ((exec enMil (loopN Tryz.f116 0) (stMil b n k)).bind (lessX ([36, 35, 7, 5], []) ([7, 5], []) ([3, 2], []))).val =
  bif decide ((↑k : Int) < (↑(ByteArray.size b) : Int)) then Option.bind b[k]? fun (z : UInt8) => Option.bind (unenc encDigit [(vU (↑(UInt8.toNat z) : Int))]) fun (z : Int)
  => bif !F.digit z then some (Ex.ret, St.mk [(3, (vB false)), (2, (vI (0 : Int)))] []) else some (Ex.normal, St.mk [(36, (vI (IntKind.wrap IntKind.i64 ((↑k : Int) + (1 :
  Int))))), (35, (vI (↑(ByteArray.size b) : Int))), (7, (vI n)), (5, (vS b))] []) else some (Ex.exit (0 : Nat), St.mk [(7, (vI n)), (5, (vS b))] []) := (execR_bind _ _ _).symm.trans (by kernel_rfl)

theorem lpMil_ok (b : ByteArray) (n : Int) (k : Nat) (hp : prlMil b n k = true) : ∀ ex s', (outMil b n k).val = some (ex, s') → LoopOK enMil (loopN Tryz.f116 0) (stMil b n k) ex s' := by
  simp only [prlMil, Bool.and_eq_true, decide_eq_true_eq] at hp
  obtain ⟨h1, h2⟩ := hp
  refine loop_gen (st := fun k => stMil b n k) (out := fun k => outMil b n k) (I := fun k => k ≤ b.size) (n := ([36, 35, 7, 5], [])) (e := ([7, 5], [])) (r := ([3, 2], [])) (fun k => b.size - k) ?_ k h2
  clear h2
  intro k hk
  have hl := F.bs_len b
  by_cases hlt : k < b.size
  · have hy : (F.bs b)[k]? = some ((F.bs b)[k]'(by omega)) := List.getElem?_eq_getElem (by omega)
    generalize (F.bs b)[k]'(by omega) = y at hy
    have hd := drop_y hy
    cases hc : F.dgB y
    · left
      refine ⟨(.ret, ⟨[(3, vB false), (2, vI 0)], []⟩), ?_, ?_, by simp, rfl⟩
      · rw [evMilL]
        simp only [unCut, unNum, unDigit, unAto, preCut1, preNum1, preDigit1, preAto1, unstMil, unstMil0, prlMil, outMil, etaEnt, etaLst, etaSnd, etaStrm, etaMas, Option.bind_some, List.length_map, unStrs, unInts, unBools, unEnts, unItms, unTrns, cond_true, cond_false, Bool.and_true, Bool.true_and, cast_lt hlt, F.bs_get, hy, F.dg_digit, hc]
        rfl
      · simp only [outMil, hd, List.all_cons, hc]
        rfl
    · right
      refine ⟨k + 1, ?_, rfl, hlt, by omega, ?_⟩
      · rw [evMilL]
        simp only [unCut, unNum, unDigit, unAto, preCut1, preNum1, preDigit1, preAto1, unstMil, unstMil0, prlMil, outMil, etaEnt, etaLst, etaSnd, etaStrm, etaMas, Option.bind_some, List.length_map, unStrs, unInts, unBools, unEnts, unItms, unTrns, cond_true, cond_false, Bool.and_true, Bool.true_and, cast_lt hlt, F.bs_get, hy, F.dg_digit, hc, next_at hlt (by omega : b.size ≤ 9223372036854775807), stMil]
        try rfl
      · simp only [outMil, hd, List.all_cons, hc, Bool.true_and]
  · have : k = b.size := by omega
    subst this
    have hd : (F.bs b).drop b.size = [] := List.drop_eq_nil_of_le (by omega)
    left
    refine ⟨(.exit 0, ⟨[(7, vI n), (5, vS b)], []⟩), ?_, ?_, by simp, rfl⟩
    · rw [evMilL]; simp
    · simp only [outMil, hd, List.all_nil]
      rfl

theorem evMil (s : ByteArray) : (runF enMil false Tryz.f116 [vS s]).val =
  Option.bind (unenc encCut [(vS s), (vS (ByteArray.mk (Array.mk [(46 : UInt8)])))]) fun (z : ByteArray × ByteArray) => bif decide (ByteArray.size z.fst ≤ (4294967280 :
  Nat)) then Option.bind (unenc encNum [(vS (F.cutH z.fst z.snd)), (vI (16 : Int))]) fun (z_1 : ByteArray × Int) => bif decide (z_1.snd ≤ (18 : Int)) then bif bif bif
  !F.numOk z_1.fst z_1.snd then true else !F.cutF z.fst z.snd then true else (↑(ByteArray.size (F.cutT z.fst z.snd)) : Int) != (3 : Int) then some (AV.tup [(vI (0 : Int)),
  (vB false)], []) else Option.bind (unenc stMil1 (St.mk [(36, (vI (0 : Int))), (35, (vI (↑(ByteArray.size (F.cutT z.fst z.snd)) : Int))), (7, (vI (F.numV z_1.fst
  z_1.snd))), (5, (vS (F.cutT z.fst z.snd)))] [])) fun (z : ByteArray × Int × Nat) => bif decide (ByteArray.size z.fst ≤ (1000 : Nat)) && decide (z.snd.snd ≤ ByteArray.size
  z.fst) && true then bif List.all (List.drop z.snd.snd (F.bs z.fst)) F.dgB then Option.bind (unenc encAto [(vS z.fst)]) fun (z_2 : ByteArray) => bif F.isD z_2 && decide
  (ByteArray.size z_2 ≤ (1000 : Nat)) then some (AV.tup [(vI (IntKind.wrap IntKind.i64 (IntKind.wrap IntKind.i64 (min z.snd.fst (1000000000000000 : Int) * (1000 : Int)) +
  (↑(F.dv z_2) : Int)))), (vB true)], []) else none else some (AV.tup [(vI (0 : Int)), (vB false)], []) else none else none else none := (runFR_val).symm.trans (by kernel_rfl)

def encMil1 (s : ByteArray) : List AV := [vS s]

def encMil (a : ByteArray) : List AV := encMil1 a

theorem encMil_inj (a a' : ByteArray) (h : encMil a = encMil a') : a = a' := by
  simp only [encMil, encMil1] at h
  try simp [strs_inj, ints_inj, ents_inj, eEnt_iff, eLst_iff, eSnds_inj, eStrms_inj] at h
  grind

theorem unMil (s : ByteArray) : unenc encMil ([(vS s)]) = some (s) := unenc_of encMil_inj (s) rfl

def resMil1 (s : ByteArray) : AV × Heap := (.tup [vI (F.milV s), vB (F.milOk s)], [])

def preMil1 (s : ByteArray) : Bool := decide (s.size ≤ 500000)

noncomputable def oMil : Orc := orc 116 true encMil (fun a => preMil1 a) fun a => resMil1 a

theorem okMil : OrcOK Tryz.prog noG oMil := by
  refine mk_ok Tryz.f116 (keep := false) (by kernel_rfl) (by kernel_rfl) enMil_ok mixed (one_loop (x0 := loopN Tryz.f116 0) (by kernel_rfl) (lpo_ok ?_)) (by first | exact fun _ _ => ⟨rfl, rfl⟩ | (intro h; cases h)) ?_
  · rintro ⟨b, n, k⟩ hp
    exact lpMil_ok b n k hp
  rintro s hpre hok
  show (runF enMil false _ (encMil1 _)).val = some (resMil1 _)
  unfold encMil1 resMil1
  rw [evMil]
  have hpre : s.size ≤ 500000 := of_decide_eq_true hpre
  have q : (⟨⟨[46]⟩⟩ : ByteArray) = F.dot := rfl
  have h16 : decide ((16 : Int) ≤ 18) = true := rfl
  simp only [unCut, unNum, unDigit, unAto, preCut1, preNum1, preDigit1, preAto1, unstMil, unstMil0, prlMil, outMil, etaEnt, etaLst, etaSnd, etaStrm, etaMas, Option.bind_some, List.length_map, unStrs, unInts, unBools, unEnts, unItms, unTrns, cond_true, cond_false, Bool.and_true, Bool.true_and, q, decide_eq_true (by omega : s.size ≤ 4294967280), h16, List.drop_zero, Nat.zero_le, decide_true]
  unfold F.milV F.milOk
  have hn := F.numV_nn (F.cutH s F.dot) 16
  generalize F.numV (F.cutH s F.dot) 16 = n at hn
  generalize F.cutT s F.dot = b
  cases F.numOk (F.cutH s F.dot) 16
  · rfl
  cases F.cutF s F.dot
  · rfl
  by_cases h3 : b.size = 3
  · have e3 : ((b.size : Int) != 3) = false := by rw [h3]; rfl
    rw [e3, decide_eq_true h3, decide_eq_true (by omega : b.size ≤ 1000)]
    by_cases ha : (F.bs b).all F.dgB = true
    · have hd := F.dv_lt h3 ha
      rw [ha, F.isD_of (by omega) (by omega) ha]
      have w1 : IntKind.i64.wrap (min n 1000000000000000 * 1000) = min n 1000000000000000 * 1000 := wrap_id (by omega) (by omega)
      have w2 : IntKind.i64.wrap (min n 1000000000000000 * 1000 + ((F.dv b : Nat) : Int)) = min n 1000000000000000 * 1000 + ((F.dv b : Nat) : Int) := wrap_id (by omega) (by omega)
      rw [w1, w2]
      rfl
    · have ha : (F.bs b).all F.dgB = false := by cases h : (F.bs b).all F.dgB <;> simp_all
      rw [ha]
      rfl
  · have e3 : ((b.size : Int) != 3) = true := by simp; omega
    rw [e3, decide_eq_false h3]
    rfl

end M

theorem F.dgB_at {s : ByteArray} (h : (F.bs s).all F.dgB = true) {k : Nat} {y : UInt8} (hy : (F.bs s)[k]? = some y) : F.dgB y = true :=
  List.all_eq_true.1 h y (List.mem_of_getElem? hy)

namespace M

def stTnu (s : ByteArray) (acc : Nat) (k : Nat) : St := ⟨[(7, vI k), (6, vI s.size), (3, vI acc), (0, vS s)], []⟩

def stTnu1 (a : ByteArray × Nat × Nat) : St := stTnu a.1 a.2.1 a.2.2

theorem stTnu_inj (a a' : ByteArray × Nat × Nat) (h : stTnu1 a = stTnu1 a') : a = a' := by
  simp only [stTnu1, stTnu] at h
  try simp [strs_inj, ints_inj, ents_inj, eEnt_iff, eLst_iff, eSnds_inj, eStrms_inj] at h
  grind

theorem unstTnu (s : ByteArray) (acc : Nat) (k : Nat) : unenc stTnu1 (St.mk [(7, (vI (↑k : Int))), (6, (vI (↑(ByteArray.size s) : Int))), (3, (vI (↑acc : Int))), (0, (vS s))] []) = some (s, acc, k) := unenc_of stTnu_inj (s, acc, k) rfl

theorem unstTnu0 (s : ByteArray)  : unenc stTnu1 (St.mk [(7, (vI (0 : Int))), (6, (vI (↑(ByteArray.size s) : Int))), (3, (vI (0 : Int))), (0, (vS s))] []) = some (s, 0, 0) := unenc_of stTnu_inj (s, 0, 0) rfl

def outTnu (s : ByteArray) (acc : Nat) (k : Nat) : T (Ex × St) := .ret (.exit 0, ⟨[(3, vI (F.dvA acc ((F.bs s).drop k) : Nat))], []⟩)

noncomputable def prlTnu (s : ByteArray) (acc : Nat) (k : Nat) : Bool := decide (s.size ≤ 18) && decide (k ≤ s.size) && decide (acc < 10 ^ k) && (F.bs s).all F.dgB

noncomputable def lpTnu : Nat × (St → T (Ex × St)) := (3, lpo [7, 6, 3, 0] [] stTnu1 (fun a => prlTnu a.1 a.2.1 a.2.2) fun a => outTnu a.1 a.2.1 a.2.2)

noncomputable def enTnu : Env := envH ty noG lks [] [] [] [lpTnu]

theorem enTnu_ok : EnvOK Tryz.prog enTnu := by
  refine envH_ok lks_ok ty_ok ?_ ?_
  · simp
  · simp

theorem evTnuL (s : ByteArray) (acc : Nat) (k : Nat) : ((exec enTnu (loopN Tryz.f131 0) (stTnu s acc k)).bind (lessX ([7, 6, 3, 0], []) ([3], []) ([], []))).val =
  bif decide ((↑k : Int) < (↑(ByteArray.size s) : Int)) then Option.bind s[k]? fun (z : UInt8) => some (Ex.normal, St.mk [(7, (vI (IntKind.wrap IntKind.i64 ((↑k : Int) + (1
  : Int))))), (6, (vI (↑(ByteArray.size s) : Int))), (3, (vI (IntKind.wrap IntKind.i64 (IntKind.wrap IntKind.i64 ((10 : Int) * (↑acc : Int)) + IntKind.wrap IntKind.i64
  (IntKind.wrap IntKind.u8 ((↑(UInt8.toNat z) : Int) - (48 : Int))))))), (0, (vS s))] []) else some (Ex.exit (0 : Nat), St.mk [(3, (vI (↑acc : Int)))] []) := (execR_bind _ _ _).symm.trans (by kernel_rfl)

theorem lpTnu_ok (s : ByteArray) (acc : Nat) (k : Nat) (hp : prlTnu s acc k = true) : ∀ ex s', (outTnu s acc k).val = some (ex, s') → LoopOK enTnu (loopN Tryz.f131 0) (stTnu s acc k) ex s' := by
  simp only [prlTnu, Bool.and_eq_true, decide_eq_true_eq] at hp
  obtain ⟨⟨⟨h1, h2⟩, h3⟩, h4⟩ := hp
  refine loop_gen (st := fun p : Nat × Nat => stTnu s p.1 p.2) (out := fun p => outTnu s p.1 p.2) (I := fun p => p.2 ≤ s.size ∧ p.1 < 10 ^ p.2) (n := ([7, 6, 3, 0], [])) (e := ([3], [])) (r := ([], [])) (fun p => s.size - p.2) ?_ (acc, k) ⟨h2, h3⟩
  clear h2 h3
  rintro ⟨acc, k⟩ ⟨g1, g2⟩
  simp only at g1 g2
  have hl := F.bs_len s
  by_cases hlt : k < s.size
  · have hy : (F.bs s)[k]? = some ((F.bs s)[k]'(by omega)) := List.getElem?_eq_getElem (by omega)
    generalize (F.bs s)[k]'(by omega) = y at hy
    have hd := drop_y hy
    have hc2 := F.dgB_at h4 hy
    unfold F.dgB at hc2
    simp only [Bool.and_eq_true, decide_eq_true_eq] at hc2
    right
    have hp18 : 10 ^ (k + 1) ≤ 10 ^ 18 := Nat.pow_le_pow_right (by decide) (by omega)
    have hn : acc * 10 + (y.toNat - 48) < 10 ^ (k + 1) := by rw [Nat.pow_succ]; omega
    have w1 : IntKind.i64.wrap (10 * (acc : Int)) = 10 * (acc : Int) := wrap_id (by omega) (by omega)
    have w2 : IntKind.u8.wrap ((y.toNat : Int) - 48) = (y.toNat : Int) - 48 := by
      simp only [IntKind.wrap, IntKind.signed, IntKind.bits]
      simp
      omega
    have w3 : IntKind.i64.wrap ((y.toNat : Int) - 48) = (y.toNat : Int) - 48 := wrap_id (by omega) (by omega)
    have w4 : IntKind.i64.wrap (10 * (acc : Int) + ((y.toNat : Int) - 48)) = ((acc * 10 + (y.toNat - 48) : Nat) : Int) := by rw [wrap_id (by omega) (by omega)]; omega
    refine ⟨(acc * 10 + (y.toNat - 48), k + 1), ?_, rfl, ⟨by simp only; omega, hn⟩, by simp only; omega, ?_⟩
    · rw [evTnuL]
      simp only [unstTnu, unstTnu0, prlTnu, outTnu, etaEnt, etaLst, etaSnd, etaStrm, etaMas, Option.bind_some, List.length_map, unStrs, unInts, unBools, unEnts, unItms, unTrns, cond_true, cond_false, Bool.and_true, Bool.true_and, cast_lt hlt, F.bs_get, hy, w1, w2, w3, w4, next_at hlt (by omega : s.size ≤ 9223372036854775807), stTnu]
      try rfl
    · simp only [outTnu, hd, F.dvA_cons]
  · have : k = s.size := by omega
    subst this
    have hd : (F.bs s).drop s.size = [] := List.drop_eq_nil_of_le (by omega)
    left
    refine ⟨(.exit 0, ⟨[(3, vI acc)], []⟩), ?_, ?_, by simp, rfl⟩
    · rw [evTnuL]; simp
    · simp only [outTnu, hd, F.dvA_nil]
      rfl

theorem evTnu (s : ByteArray) : (runF enTnu false Tryz.f131 [vS s]).val =
  Option.bind (unenc stTnu1 (St.mk [(7, (vI (0 : Int))), (6, (vI (↑(ByteArray.size s) : Int))), (3, (vI (0 : Int))), (0, (vS s))] [])) fun (z : ByteArray × Nat × Nat) => bif
  decide (ByteArray.size z.fst ≤ (18 : Nat)) && decide (z.snd.snd ≤ ByteArray.size z.fst) && decide (z.snd.fst < (10 : Nat) ^ z.snd.snd) && List.all (F.bs z.fst) F.dgB &&
  true then some ((vI (↑(F.dvA z.snd.fst (List.drop z.snd.snd (F.bs z.fst))) : Int)), []) else none := (runFR_val).symm.trans (by kernel_rfl)

def encTnu1 (s : ByteArray) : List AV := [vS s]

def encTnu (a : ByteArray) : List AV := encTnu1 a

theorem encTnu_inj (a a' : ByteArray) (h : encTnu a = encTnu a') : a = a' := by
  simp only [encTnu, encTnu1] at h
  try simp [strs_inj, ints_inj, ents_inj, eEnt_iff, eLst_iff, eSnds_inj, eStrms_inj] at h
  grind

theorem unTnu (s : ByteArray) : unenc encTnu ([(vS s)]) = some (s) := unenc_of encTnu_inj (s) rfl

def resTnu1 (s : ByteArray) : AV × Heap := (vI (F.dv s : Nat), [])

def preTnu1 (s : ByteArray) : Bool := decide (s.size ≤ 18) && (F.bs s).all F.dgB

noncomputable def oTnu : Orc := orc 131 true encTnu (fun a => preTnu1 a) fun a => resTnu1 a

theorem okTnu : OrcOK Tryz.prog noG oTnu := by
  refine mk_ok Tryz.f131 (keep := false) (by kernel_rfl) (by kernel_rfl) enTnu_ok mixed (one_loop (x0 := loopN Tryz.f131 0) (by kernel_rfl) (lpo_ok ?_)) (by first | exact fun _ _ => ⟨rfl, rfl⟩ | (intro h; cases h)) ?_
  · rintro ⟨s, acc, k⟩ hp
    exact lpTnu_ok s acc k hp
  rintro s hpre hok
  show (runF enTnu false _ (encTnu1 _)).val = some (resTnu1 _)
  unfold encTnu1 resTnu1
  rw [evTnu]
  have hpre : (decide (s.size ≤ 18) && (F.bs s).all F.dgB) = true := hpre
  rw [Bool.and_eq_true] at hpre
  simp only [unstTnu, unstTnu0, prlTnu, outTnu, etaEnt, etaLst, etaSnd, etaStrm, etaMas, Option.bind_some, List.length_map, unStrs, unInts, unBools, unEnts, unItms, unTrns, cond_true, cond_false, Bool.and_true, Bool.true_and, hpre.1, hpre.2, List.drop_zero, Nat.zero_le, decide_true, (by decide : decide (0 < 10 ^ 0) = true)]
  rfl

end M

end Go.Proofs.YtajmdlpanlbnjaaGreatDoor
