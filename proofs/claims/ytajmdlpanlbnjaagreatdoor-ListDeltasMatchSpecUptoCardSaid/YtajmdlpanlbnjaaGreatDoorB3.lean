/- What is proved here: where a client begins, on plain data, of the program and of the reference (no statement of the seat). -/
import Derived.Test.YtajmdlpanlbnjaaGreatDoorProg
import Derived.Lib.ItoaNum
import Derived.Test.YtajmdlpanlbnjaaGreatDoorB2

namespace Go.Proofs.YtajmdlpanlbnjaaGreatDoor.M
open Go Go.RowKit
set_option linter.unusedVariables false
set_option linter.unusedSimpArgs false

section

variable {P : Program} {E : Env}
def exOf : Ex → Exit
  | .normal => .normal
  | .exit i => .exit i
  | .ret => .ret
def lessR (kt kh : List Nat) (p : Ex × St) : T (Ex × St) := .ret (p.1, less kt kh p.2)
def ownP (kb j k : Nat) (p : Nat × Blk) : Nat × Blk := match Nat.beq p.1 kb with
  | true => (p.1, { p.2 with rows := p.2.rows.map (fun r => r.set j (.own k)) })
  | false => p
def ownH (kb j k t n : Nat) (h : Heap) : Heap := mset (h.map (ownP kb j k)) k ⟨false, t, n, []⟩
def ownB (kb j k : Nat) (h : Heap) : Bool := (match mget h k with | none => true | some _ => false) && Nat.blt k 900 && (match mget h kb with
  | some b => b.box && b.rows.all fun r => match r[j]? with | some .e0 => true | _ => false
  | none => false)
inductive LoopOK (E : Env) (x : Code) : St → Ex → St → Prop where
  | stop {s s1 : St} {e : Ex} (kt kh : List Nat) (h : ((exec E x s).bind (lessR kt kh)).val = some (e, s1)) (hn : e ≠ .normal) (hc : closedB s1 = true) : LoopOK E x s e s1
  | next {s s1 s2 : St} {e : Ex} (kt kh : List Nat) (h : ((exec E x s).bind (lessR kt kh)).val = some (.normal, s1)) (hc : closedB s1 = true) (hl : LoopOK E x s1 e s2) : LoopOK E x s e s2
  | weak {s s2 : St} {e : Ex} (kt kh : List Nat) (hc : closedB (less kt kh s) = true) (hl : LoopOK E x (less kt kh s) e s2) : LoopOK E x s e s2
  | own {s s2 : St} {e : Ex} (kb j k t n : Nat) (hb : ownB kb j k s.h = true) (hl : LoopOK E x ⟨s.t, ownH kb j k t n s.h⟩ e s2) : LoopOK E x s e s2
section
variable {B : Nat → Prop} {N : Nat} {β0 : Nat → Option BI} {o : Oper} {a : Act} {w w' w0 : World} {S S' S0 : Nat → Prop} {β β' : Nat → Option BI} {h : Heap} {av : AV} {v : Value} {t : Tmps} {s s' s2 : St}
theorem hasAll_spec {ks : List Nat} (hh : hasAll h ks = true) : ∀ k ∈ ks, ∃ b, mget h k = some b := fun k hk => by
  have := List.all_eq_true.1 hh k hk
  cases hm : mget h k with
  | none => rw [hm] at this; cases this
  | some b => exact ⟨b, rfl⟩
theorem getT_filter (f : Nat → Bool) (t : Tmps) (n : Nat) : getT (t.filter fun p => f p.1) n = if f n = true then getT t n else .unk := by
  unfold getT
  rw [mget_filter f]
  cases f n <;> simp
theorem less_rel (rel : Rel E B N w0 S0 β0 s a w S β) (kt kh : List Nat) (hc : closedB (less kt kh s) = true) : ∃ β', Rel E B N w0 S0 β0 (less kt kh s) a w S β' := by
  have inv := rel.inv
  unfold closedB at hc
  simp only [Bool.and_eq_true] at hc
  obtain ⟨hc1, hc2⟩ := hc
  have mh : ∀ k, mget (less kt kh s).h k = if kh.elem k = true then mget s.h k else none := fun k => by
    show mget (s.h.filter fun p => kh.elem p.1) k = _
    exact mget_filter (fun q => kh.elem q) s.h k
  let β' : Nat → Option BI := fun k => if kh.elem k = true then β k else none
  have hb : ∀ k x, β' k = some x → kh.elem k = true ∧ β k = some x := by
    intro k x hx
    simp only [β'] at hx
    split at hx
    · exact ⟨‹_›, hx⟩
    · cases hx
  have keep : ∀ ks, hasAll (less kt kh s).h ks = true → ∀ k ∈ ks, ∀ x, β k = some x → β' k = some x := by
    intro ks hks k hk x hx
    obtain ⟨b, hm⟩ := hasAll_spec hks k hk
    rw [mh] at hm
    split at hm
    · simp only [β']; rw [if_pos ‹_›]; exact hx
    · cases hm
  refine ⟨β', ⟨inv.base, inv.lt, fun k k' x x' h1 h2 => inv.inj k k' x x' (hb k x h1).2 (hb k' x' h2).2, fun k x h1 => inv.new k x (hb k x h1).2, fun k x h1 => ?_, fun k bl h1 => ?_, inv.glob⟩, fun n => ?_, fun n j b want x hn => ?_, rel.below, rel.sub, rel.news, fun k x hi hm hx => rel.fix k x hi hm (hb k x hx).2, rel.size, rel.defers⟩
  · obtain ⟨k1, k2⟩ := hb k x h1
    obtain ⟨bl, a1, a2, a3⟩ := inv.dom k x k2
    have hm : mget (less kt kh s).h k = some bl := by rw [mh, if_pos k1]; exact a1
    refine ⟨bl, hm, fun hr => ?_, a3⟩
    obtain ⟨cs, ty, c1, c2, c3, c4, c5, c6, c7, c8⟩ := a2 hr
    refine ⟨cs, ty, c1, c2, c3, c4, c5, c6, c7, fun i row hi => ⟨(c8 i row hi).1, fun j y hy => ?_⟩⟩
    obtain ⟨u, hu, hru⟩ := (c8 i row hi).2 j y hy
    refine ⟨u, hu, ?_⟩
    cases hbx : bl.box
    · rw [hbx] at hru; simpa using hru
    · rw [hbx] at hru
      simp only [if_true] at hru ⊢
      have h2 := List.all_eq_true.1 hc2 (k, bl) (mget_mem hm)
      simp only [hbx] at h2
      have h3 := List.all_eq_true.1 (List.all_eq_true.1 h2 row (List.mem_of_getElem? hi)) y (List.mem_of_getElem? hy)
      refine hru.mono (fun _ _ => rfl) (fun _ h => h) fun q hq x hx => keep _ h3 q ?_ x hx
      cases y <;> first | exact hq | (simp [refsC, refs0] at hq)
  · rw [mh] at h1
    split at h1
    · obtain ⟨x, hx⟩ := inv.cov k bl h1
      exact ⟨x, by simp only [β']; rw [if_pos ‹_›]; exact hx⟩
    · cases h1
  · have hg : getT (less kt kh s).t n = noGd (if kt.elem n = true then getT s.t n else .unk) := by
      show getT ((s.t.filter fun p => kt.elem p.1).map fun p => (p.1, noGd p.2)) n = _
      rw [getT_map _ noGd rfl, getT_filter (fun q => kt.elem q)]
    have hk : hasAll (less kt kh s).h (refs2 (getT (less kt kh s).t n)) = true := by
      unfold getT
      cases hm : mget (less kt kh s).t n with
      | none => rfl
      | some y => exact List.all_eq_true.1 hc1 (n, y) (mget_mem hm)
    rw [hg] at hk ⊢
    split
    · rename_i hn
      rw [if_pos hn] at hk
      exact (noGd_rv (rel.tok n)).mono (fun _ _ => rfl) (fun _ h => h) (keep _ hk)
    · trivial
  · have hg : getT (less kt kh s).t n = noGd (if kt.elem n = true then getT s.t n else .unk) := by
      show getT ((s.t.filter fun p => kt.elem p.1).map fun p => (p.1, noGd p.2)) n = _
      rw [getT_map _ noGd rfl, getT_filter (fun q => kt.elem q)]
    rw [hg] at hn
    exact absurd hn noGd_ne
theorem less_relE (rel : RelE E B N w0 S0 β0 s a w) (kt kh : List Nat) (hc : closedB (less kt kh s) = true) : RelE E B N w0 S0 β0 (less kt kh s) a w := by
  obtain ⟨S, β, r⟩ := rel
  obtain ⟨β', r'⟩ := less_rel r kt kh hc
  exact ⟨S, β', r'⟩
theorem ownNe {i k : Nat} (h : ¬ i = k) : Nat.beq i k = false := by
  cases hb : Nat.beq i k
  · rfl
  · exact absurd (Nat.eq_of_beq_eq_true hb) h
theorem mget_ownH (kb j k t n : Nat) (h : Heap) (q : Nat) : mget (ownH kb j k t n h) q = if k = q then some ⟨false, t, n, []⟩ else (mget h q).map fun b => if q = kb then { b with rows := b.rows.map (fun r => r.set j (.own k)) } else b := by
  have hmap : ∀ h : Heap, mget (h.map (ownP kb j k)) q = (mget h q).map fun b => if q = kb then { b with rows := b.rows.map (fun r => r.set j (.own k)) } else b := by
    intro h
    induction h with
    | nil => rfl
    | cons p r ih =>
      obtain ⟨i, b⟩ := p
      rw [List.map_cons]
      have hp : ownP kb j k (i, b) = (i, if i = kb then { b with rows := b.rows.map (fun r => r.set j (.own k)) } else b) := by
        unfold ownP
        by_cases hi : i = kb
        · have : Nat.beq i kb = true := by simpa using hi
          simp only [this, if_pos hi]
        · have : Nat.beq i kb = false := ownNe hi
          simp only [this, if_neg hi]
      rw [hp, mget, mget]
      by_cases hqi : q = i
      · subst hqi
        have : Nat.beq q q = true := by simp
        simp only [this, Option.map_some]
      · have : Nat.beq q i = false := ownNe hqi
        simp only [this]
        exact ih
  unfold ownH
  rw [mget_mset]
  by_cases hkq : k = q
  · subst hkq; simp
  · have hqk : ¬ q = k := fun e => hkq e.symm
    first | (rw [if_neg hkq, if_neg hkq]; exact hmap h) | (rw [if_neg hqk, if_neg hkq]; exact hmap h)
theorem own_rel (rel : Rel E B N w0 S0 β0 s a w S β) {kb j k t n : Nat} (hc : ownB kb j k s.h = true) : ∃ β', Rel E B N w0 S0 β0 ⟨s.t, ownH kb j k t n s.h⟩ a w S β' := by
  have inv := rel.inv
  unfold ownB at hc
  simp only [Bool.and_eq_true] at hc
  obtain ⟨⟨hc1, hc2⟩, hc3⟩ := hc
  have hk9 : k < 900 := by simpa using hc2
  have hkn : mget s.h k = none := by
    cases hm : mget s.h k with
    | none => rfl
    | some b => rw [hm] at hc1; cases hc1
  have hβk : β k = none := by
    cases hb : β k with
    | none => rfl
    | some x =>
      obtain ⟨bl, h1, _⟩ := inv.dom k x hb
      rw [hkn] at h1; cases h1
  let β' : Nat → Option BI := fun q => if q = k then some ⟨false, 0, 0, 0, 0⟩ else β q
  have hb : ∀ q x, β' q = some x → x.real = true → β q = some x := by
    intro q x hx hr
    simp only [β'] at hx
    split at hx
    · cases hx; cases hr
    · exact hx
  have keep : ∀ q x, β q = some x → β' q = some x := by
    intro q x hx
    simp only [β']
    rw [if_neg (by rintro rfl; rw [hβk] at hx; cases hx)]
    exact hx
  refine ⟨β', ⟨inv.base, inv.lt, fun k1 k2 x x' h1 h2 r1 r2 => inv.inj k1 k2 x x' (hb k1 x h1 r1) (hb k2 x' h2 r2) r1 r2, fun q x h1 r1 => inv.new q x (hb q x h1 r1) r1, fun q x h1 => ?_, fun q bl h1 => ?_, inv.glob⟩, fun m => (rel.tok m).mono (fun _ _ => rfl) (fun _ h => h) (fun q _ x hx => keep q x hx), rel.gd, rel.below, rel.sub, rel.news, fun q x hi hm hx => ?_, rel.size, rel.defers⟩
  · by_cases hq : q = k
    · subst hq
      refine ⟨⟨false, t, n, []⟩, by rw [mget_ownH, if_pos rfl], fun hr => ?_, fun _ => ⟨rfl, rfl⟩⟩
      simp only [β', if_true] at h1
      cases h1; cases hr
    · have h2 : β q = some x := by simp only [β', if_neg hq] at h1; exact h1
      obtain ⟨bl, a1, a2, a3⟩ := inv.dom q x h2
      have hm : mget (ownH kb j k t n s.h) q = some (if q = kb then { bl with rows := bl.rows.map (fun r => r.set j (.own k)) } else bl) := by
        rw [mget_ownH, if_neg (fun e => hq e.symm), a1]; rfl
      by_cases hkb : q = kb
      · rw [if_pos hkb] at hm
        subst hkb
        rw [a1] at hc3
        simp only [Bool.and_eq_true] at hc3
        obtain ⟨hbx, hrows⟩ := hc3
        refine ⟨_, hm, fun hr => ?_, fun hr => ?_⟩
        · obtain ⟨cs, ty, c1, c2, c3, c4, c5, c6, c7, c8⟩ := a2 hr
          refine ⟨cs, ty, c1, c2, by simpa using c3, c4, c5, c6, c7, fun i row hi => ?_⟩
          simp only [List.getElem?_map, Option.map_eq_some_iff] at hi
          obtain ⟨row0, hi0, rfl⟩ := hi
          obtain ⟨d1, d2⟩ := c8 i row0 hi0
          refine ⟨by simpa using d1, fun l y hy => ?_⟩
          simp only [hbx, if_true] at d2 ⊢
          rw [List.getElem?_set] at hy
          split at hy
          · rename_i hjl
            subst hjl
            split at hy
            · rename_i hlt
              cases hy
              have he := List.all_eq_true.1 hrows row0 (List.mem_of_getElem? hi0)
              have hg : row0[j]? = some row0[j] := List.getElem?_eq_getElem hlt
              have h0 : row0[j]? = some .e0 := by
                rw [hg] at he ⊢
                cases hh : row0[j] <;> rw [hh] at he <;> first | rfl | cases he
              obtain ⟨v, e1, e2⟩ := d2 j _ h0
              exact ⟨v, e1, ⟨⟨false, 0, 0, 0, 0⟩, by simp only [β', if_true], (fun hr => (nomatch hr)), (fun _ => e2)⟩⟩
            · cases hy
          · obtain ⟨v, e1, e2⟩ := d2 l y hy
            exact ⟨v, e1, e2.mono (fun _ _ => rfl) (fun _ h => h) fun q _ x hx => keep q x hx⟩
        · have := a3 hr
          rw [hbx] at this
          exact absurd this.2 (by simp)
      · rw [if_neg hkb] at hm
        refine ⟨bl, hm, fun hr => ?_, a3⟩
        obtain ⟨cs, ty, c1, c2, c3, c4, c5, c6, c7, c8⟩ := a2 hr
        refine ⟨cs, ty, c1, c2, c3, c4, c5, c6, c7, fun i row hi => ⟨(c8 i row hi).1, fun l y hy => ?_⟩⟩
        obtain ⟨u, hu, hru⟩ := (c8 i row hi).2 l y hy
        refine ⟨u, hu, ?_⟩
        cases hbx : bl.box
        · rw [hbx] at hru; simpa using hru
        · rw [hbx] at hru
          simp only [if_true] at hru ⊢
          exact hru.mono (fun _ _ => rfl) (fun _ h => h) fun q _ x hx => keep q x hx
  · rw [mget_ownH] at h1
    split at h1
    · rename_i e
      subst e
      exact ⟨⟨false, 0, 0, 0, 0⟩, by simp only [β', if_true]⟩
    · cases hm : mget s.h q with
      | none => rw [hm] at h1; cases h1
      | some b =>
        obtain ⟨x, hx⟩ := inv.cov q b hm
        exact ⟨x, keep q x hx⟩
  · have hq : q ≠ k := by rintro rfl; exact absurd hi.1 (by omega)
    simp only [β', if_neg hq] at hx
    exact rel.fix q x hi hm hx
theorem own_relE (rel : RelE E B N w0 S0 β0 s a w) {kb j k t n : Nat} (hc : ownB kb j k s.h = true) : RelE E B N w0 S0 β0 ⟨s.t, ownH kb j k t n s.h⟩ a w := by
  obtain ⟨S, β, r⟩ := rel
  obtain ⟨β', r'⟩ := own_rel r hc
  exact ⟨S, β', r'⟩
theorem ung_none (x : AV) : ung none x = x := by unfold ung; split <;> rfl
theorem eval_bool (rel : RelE E B N w0 S0 β0 s a w) {c : Operand} {b : Bool} (hb : boolOf (ev E s.t c) = some b) : a.eval c = .bool b := by
  obtain ⟨S, β, r⟩ := rel
  have := r.args (g := none) (fun _ _ e => by cases e) c
  unfold ρOf at this
  rw [ung_none, boolOf_some hb] at this
  exact (rv_v this).1
def CodeOK (P : Program) (E : Env) (B : Nat → Prop) (N : Nat) (w0 : World) (S0 : Nat → Prop) (β0 : Nat → Option BI) (c : Code) : Prop :=
  ∀ (s : St) (e : Ex) (s' : St) (a : Act) (w : World) (Q : Exit → Act → World → Prop), RelE E B N w0 S0 β0 s a w → (exec E c s).val = some (e, s') → (∀ a' w', RelE E B N w0 S0 β0 s' a' w' → Q (exOf e) a' w') → c.wp P Q a w
theorem loop_key {x : Code} (hx : CodeOK P E B N w0 S0 β0 x) {Q : Exit → Act → World → Prop} {s2 : St} {e : Ex} (hQ : ∀ a' w', RelE E B N w0 S0 β0 s2 a' w' → Q (exOf e) a' w') {s : St} (hl : LoopOK E x s e s2) :
    ∀ (a : Act) (w : World), RelE E B N w0 S0 β0 s a w → ∀ (b : Frame) (k : List Item) (cs : List Frame), ∃ e' a' w', Q e' a' w' ∧ Arrives P (lone (b.at a (.code x :: .inLoop x :: k)) cs w) b k cs e' a' w' := by
  induction hl with
  | @stop s s1 e kt kh h hn hc =>
    intro a w rel b k cs
    rw [T.bind_some] at h
    obtain ⟨⟨e1, s3⟩, h1, h2⟩ := h
    rw [show lessR kt kh (e1, s3) = .ret (e1, less kt kh s3) from rfl, T.ret_some] at h2
    cases h2
    obtain ⟨e', a', w', hq, harr⟩ := hx s e s3 a w (fun e' a' w' => e' = exOf e ∧ RelE E B N w0 S0 β0 s3 a' w') rel h1 (fun a' w' r => ⟨rfl, r⟩) b (.inLoop x :: k) cs
    obtain ⟨rfl, hr⟩ := hq
    refine ⟨exOf e, a', w', hQ a' w' (less_relE hr kt kh hc), .pass (x := .inLoop x) rfl (fun _ _ => .inl ?_) harr⟩
    cases e <;> first | exact absurd rfl hn | simp [exOf]
  | @next s s1 s2 e kt kh h hc hl ih =>
    intro a w rel b k cs
    rw [T.bind_some] at h
    obtain ⟨⟨e1, s3⟩, h1, h2⟩ := h
    rw [show lessR kt kh (e1, s3) = .ret (e1, less kt kh s3) from rfl, T.ret_some] at h2
    cases h2
    obtain ⟨e', a', w', hq, harr⟩ := hx s .normal s3 a w (fun e' a' w' => e' = .normal ∧ RelE E B N w0 S0 β0 s3 a' w') rel h1 (fun a' w' r => ⟨rfl, r⟩) b (.inLoop x :: k) cs
    obtain ⟨rfl, hr⟩ := hq
    obtain ⟨e2, a2, w2, q2, r2⟩ := ih hQ a' w' (less_relE hr kt kh hc) b k cs
    exact ⟨e2, a2, w2, q2, .of_steps (Steps.trans harr (.one step_inLoop)) r2⟩
  | @weak s s2 e kt kh hc hl ih =>
    intro a w rel b k cs
    exact ih hQ a w (less_relE rel kt kh hc) b k cs
  | @own s s2 e kb j ky t n hb hl ih =>
    intro a w rel b k cs
    exact ih hQ a w (own_relE rel hb) b k cs
theorem exec_sound (ok : EnvOK P E) (hm : P.follows .mixedOrders = true) {L : List Code} (hlp : ∀ x ∈ L, ∀ s e s', (E.lp (lid x) s).val = some (e, s') → LoopOK E x s e s') : ∀ c : Code, (∀ x ∈ loopsOf c, x ∈ L) → dstsOK N c = true → CodeOK P E B N w0 S0 β0 c := by
  intro c
  induction c with
  | skip =>
    intro _ _ s e s' a w Q rel hs hQ
    rw [exec, done, T.ret_some] at hs
    cases hs
    exact wp_skip (hQ a w rel)
  | region id ops dr =>
    intro _ hd s e s' a w Q rel hs hQ
    have hd' : DstOK N ops := fun o ho d hdd => by
      have := List.all_eq_true.1 hd o ho
      rw [hdd] at this
      simpa using this
    cases dr with
    | false =>
      simp only [exec, T.bind_some] at hs
      obtain ⟨s1, h1, h2⟩ := hs
      rw [done, T.ret_some] at h2
      cases h2
      exact region_sound ok hd' rel h1 hQ
    | true =>
      simp only [exec, T.bind_some] at hs
      obtain ⟨s1, h1, h2⟩ := hs
      rw [done, T.ret_some] at h2
      cases h2
      exact draw_sound ok hd' hm rel h1 hQ
  | seq x y ihx ihy =>
    intro hL hd s e s' a w Q rel hs hQ
    simp only [dstsOK, Bool.and_eq_true] at hd
    rw [exec, T.bind_some] at hs
    obtain ⟨⟨e1, s1⟩, h1, h2⟩ := hs
    refine wp_seq (ihx (fun z hz => hL z (by simp [loopsOf, hz])) hd.1 s e1 s1 a w _ rel h1 fun a' w' r => ?_)
    cases e1 with
    | normal => exact ihy (fun z hz => hL z (by simp [loopsOf, hz])) hd.2 s1 e s' a' w' Q r h2 hQ
    | exit i => rw [T.ret_some] at h2; cases h2; exact hQ a' w' r
    | ret => rw [T.ret_some] at h2; cases h2; exact hQ a' w' r
  | cond c x y ihx ihy =>
    intro hL hd s e s' a w Q rel hs hQ
    simp only [dstsOK, Bool.and_eq_true] at hd
    rw [exec] at hs
    split at hs
    · rename_i b hb
      refine wp_cond (eval_bool rel hb) ?_
      rw [T.ifB_some] at hs
      rcases hs with ⟨rfl, hs⟩ | ⟨rfl, hs⟩
      · exact ihx (fun z hz => hL z (by simp [loopsOf, hz])) hd.1 s e s' a w Q rel hs hQ
      · exact ihy (fun z hz => hL z (by simp [loopsOf, hz])) hd.2 s e s' a w Q rel hs hQ
    · rw [T.fail_some] at hs; exact hs.elim
  | block id x ihx =>
    intro hL hd s e s' a w Q rel hs hQ
    rw [exec, T.bind_some] at hs
    obtain ⟨⟨e1, s1⟩, h1, h2⟩ := hs
    refine wp_block (ihx (fun z hz => hL z (by simpa [loopsOf] using hz)) hd s e1 s1 a w _ rel h1 fun a' w' r => ?_)
    cases e1 with
    | normal => rw [T.ret_some] at h2; cases h2; exact hQ a' w' r
    | ret => rw [T.ret_some] at h2; cases h2; exact hQ a' w' r
    | exit i =>
      simp only [exOf, Exit.inBlock]
      simp only [] at h2
      cases hi : Nat.beq i id with
      | true =>
        rw [if_pos (beq_true.1 hi)]
        simp only [hi] at h2
        rw [T.ret_some] at h2; cases h2; exact hQ a' w' r
      | false =>
        rw [if_neg (beq_false.1 hi)]
        simp only [hi] at h2
        rw [T.ret_some] at h2; cases h2; exact hQ a' w' r
  | loop x ihx =>
    intro hL hd s e s' a w Q rel hs hQ
    rw [exec] at hs
    have hl := hlp x (hL x (by simp [loopsOf])) s e s' hs
    have hx := ihx (fun z hz => hL z (by simp [loopsOf, hz])) hd
    intro b k cs
    obtain ⟨e', a', w', hq, harr⟩ := loop_key hx hQ hl a w rel b k cs
    exact ⟨e', a', w', hq, .of_steps (.one step_loop) harr⟩
  | exit id =>
    intro _ _ s e s' a w Q rel hs hQ
    rw [exec, T.ret_some] at hs
    cases hs
    exact wp_exit (hQ a w rel)
  | ret =>
    intro _ _ s e s' a w Q rel hs hQ
    rw [exec, T.ret_some] at hs
    cases hs
    exact wp_ret (hQ a w rel)
  | _ =>
    intro _ _ s e s' a w Q rel hs hQ
    simp [exec, T.val] at hs

def resSem (a : Act) : ResultVar → Sem Value
  | .tmp t => Pure.pure (a.tmps.getD t undef)
  | .cell q t => do loadVar t (← asAddr (a.tmps.getD q undef))
theorem run_res (ok : EnvOK P E) (rel : Rel E B N w0 S0 β0 s a w S β) (r : ResultVar) {x : AV} (hx : (resOf E s r).val = some x) : ∃ u, (resSem a r).run P w = .ok u w ∧ RV w S β x u := by
  cases r with
  | tmp t =>
    simp only [resOf, T.ret_some] at hx
    subst hx
    exact ⟨_, rfl, rel.tok t⟩
  | cell q t =>
    simp only [resOf] at hx
    split at hx
    · rename_i ti hti
      obtain ⟨u, h1, h2⟩ := run_loadK (P := P) ok.ty rel.inv hti (rel.tok q) hx
      refine ⟨u, ?_, h2⟩
      have : ∃ ad, a.tmps.getD q undef = .pointer (some ad) := by
        have hq := rel.tok q
        unfold loadK at hx
        split at hx
        · rename_i row off hr; rw [hr] at hq; obtain ⟨b, o, h, _⟩ := rv_pel hq; exact ⟨_, h⟩
        · rename_i k i off hr; rw [hr] at hq; obtain ⟨X, _, _, h⟩ := rv_ptr hq; exact ⟨_, h⟩
        · rw [T.fail_some] at hx; exact hx.elim
      obtain ⟨ad, had⟩ := this
      show (do loadVar t (← asAddr (a.tmps.getD q undef)) : Sem Value).run P w = _
      rw [had] at h1 ⊢
      simpa [Instr.loadAt, Instr.sureAddr, asAddr] using h1
    · rw [T.fail_some] at hx; exact hx.elim
theorem run_ress (ok : EnvOK P E) (rel : Rel E B N w0 S0 β0 s a w S β) : ∀ (rs : List ResultVar) {xs : List AV}, (ress E s rs).val = some xs →
    ∃ us : List Value, (rs.mapM (resSem a)).run P w = .ok us w ∧ RL (RV w S β) xs us
  | [], xs, hx => by
    simp only [ress, T.ret_some] at hx
    subst hx
    exact ⟨[], by simp, trivial⟩
  | r :: rs, xs, hx => by
    simp only [ress, T.bind_some, T.ret_some] at hx
    obtain ⟨x, h1, xs', h2, rfl⟩ := hx
    obtain ⟨u, h3, h4⟩ := run_res ok rel r h1
    obtain ⟨us, h5, h6⟩ := run_ress ok rel rs h2
    exact ⟨u :: us, by rw [List.mapM_cons]; simp only [Sem.run_bind, h3, Result.andThen_ok, h5, Sem.run_pure], h4, h6⟩
theorem run_results (ok : EnvOK P E) (rel : Rel E B N w0 S0 β0 s a w S β) (fn : Func) {xs : List AV} (hx : (ress E s fn.results.toList).val = some xs) :
    ∃ u, (results fn a.tmps).run P w = .ok u w ∧ RV w S β (resAV xs) u := by
  obtain ⟨us, h1, h2⟩ := run_ress ok rel _ hx
  have hr : (results fn a.tmps).run P w = .ok (if h : us.toArray.size = 1 then us.toArray[0] else .tuple us.toArray) w := by
    have e : results fn a.tmps = (do let vs ← fn.results.mapM (resSem a); Pure.pure (if h : vs.size = 1 then vs[0] else .tuple vs)) := rfl
    rw [e, Array.mapM_eq_mapM_toList]
    simp [h1]
  refine ⟨_, hr, ?_⟩
  have hlen := h2.length
  rcases xs with _ | ⟨x, _ | ⟨y, xs⟩⟩ <;> rcases us with _ | ⟨u, _ | ⟨u2, us⟩⟩ <;> first | (simp at hlen; done) | skip
  · simp
    exact ⟨[], rfl, trivial⟩
  · simp
    exact noGd_rv h2.1
  · simp only [List.size_toArray, List.length_cons]
    rw [dif_neg (by omega)]
    refine ⟨u :: u2 :: us, rfl, h2.map fun b hb u hu => ?_⟩
    unfold flatOnly
    split
    · trivial
    · trivial
    · rename_i n1 n2
      rw [RV_eq n2 n1] at hu
      exact hu
theorem mget_numbered : ∀ (l : List AV) (i : Nat) (acc : Tmps) (n : Nat), mget (numbered i l acc) n = if i ≤ n ∧ n < i + l.length then l[n - i]? else mget acc n
  | [], i, acc, n => by
    simp only [numbered, List.length_nil, Nat.add_zero]
    rw [if_neg (by omega)]
  | x :: l, i, acc, n => by
    rw [numbered, mget_numbered l (i + 1) _ n]
    simp only [List.length_cons, mget]
    by_cases h1 : n = i
    · subst h1
      rw [if_neg (by omega), if_pos (by omega), beq_true.2 rfl]
      simp
    · rw [beq_false.2 h1]
      by_cases h2 : i + 1 ≤ n ∧ n < i + 1 + l.length
      · rw [if_pos h2, if_pos (by omega)]
        obtain ⟨q, hq⟩ : ∃ q, n - i = q + 1 := ⟨n - i - 1, by omega⟩
        rw [hq, List.getElem?_cons_succ]
        congr 1; omega
      · rw [if_neg h2, if_neg (by omega)]
theorem view0_noown {hg : Nat → Option Blk} {x : AV} (hn : ∀ k, x ≠ .own k) (hw : ∀ k lo n, x ≠ .win k lo n) (hr : RC w S β x v) : R0 w S (view0 hg x) v := by
  have h1 := hr.one
  cases x
  case own k => exact absurd rfl (hn k)
  case win k lo n => exact absurd rfl (hw k lo n)
  case e0 =>
    obtain ⟨A, rfl⟩ := hr
    exact R0.sl (rows := []) (size := 0) (b := 0) (off := 0) (vals := fun _ _ => .nilFunc) (by simp) (by simp) (by simp) (by simp) (by simp) (by simp)
  case v y => exact hr
  case sl rows => exact hr
  case nz b rows => exact hr.1
  case fn f cs =>
    obtain ⟨vs, rfl, h2⟩ := hr
    cases cs
    · cases vs
      · exact .fn f
      · exact h2.elim
    · exact .unk rfl
  all_goals exact .unk h1
theorem keptB_spec {ks : List Nat} : ∀ {l : List Nat} {H : Heap}, keptB h ks l = some H → (∀ p bl, mget H p = some bl → ∃ j ∈ l, p = posIn ks j ∧ mget h j = some bl ∧ bl.box = false) ∧ (∀ j ∈ l, ∃ bl, mget h j = some bl ∧ bl.box = false ∧ ∃ b2, mget H (posIn ks j) = some b2)
  | [], H, hh => by
    simp only [keptB, Option.some.injEq] at hh
    subst hh
    exact ⟨fun p bl hp => by simp [mget] at hp, fun j hj => by simp at hj⟩
  | j :: r, H, hh => by
    simp only [keptB] at hh
    split at hh
    · rename_i bl hbl
      split at hh
      · cases hh
      · rename_i hbox
        split at hh
        · rename_i H' hH
          cases hh
          obtain ⟨i1, i2⟩ := keptB_spec hH
          refine ⟨fun p b hp => ?_, fun q hq => ?_⟩
          · simp only [mget] at hp
            split at hp
            · rename_i hb
              cases hp
              exact ⟨j, by simp, beq_true.1 hb, hbl, hbox⟩
            · obtain ⟨q, h1, h2⟩ := i1 p b hp
              exact ⟨q, by simp [h1], h2⟩
          · rcases List.mem_cons.1 hq with rfl | hq
            · exact ⟨bl, hbl, hbox, bl, by simp [mget]⟩
            · obtain ⟨b, h1, h2, b2, h3⟩ := i2 q hq
              refine ⟨b, h1, h2, ?_⟩
              simp only [mget]
              split
              · exact ⟨_, rfl⟩
              · exact ⟨b2, h3⟩
        · cases hh
    · cases hh
theorem run_startC (ok : EnvOK P E) {f : FuncId} {fn : Func} (hf : P.funcs[f]? = some fn)
    {c : Code} (hc : fn.body = some c) (hd : dstsOK fn.ntmps c = true) {hin : Heap} {args : List AV} {cargs : List Value} (inv : Inv E B w S β0 hin) (hargs : RL (RV w S β0) args cargs) {s2 : St} {ee : Ex} (he : ee = .normal ∨ ee = .ret)
    (h1 : ∀ N a w', dstsOK N c = true → RelE E B N w S β0 ⟨numbered 0 (args.map noGd) [], hin⟩ a w' → ∀ Q : Exit → Act → World → Prop, (∀ a1 w1, RelE E B N w S β0 s2 a1 w1 → Q (exOf ee) a1 w1) → c.wp P Q a w') {xs : List AV} (h3 : (ress E s2 fn.results.toList).val = some xs) {R : Ending → World → Prop}
    (hQ : ∀ w' S2 β2 a' u, Rel E B (cargs.length + (fn.ntmps - cargs.length)) w S β0 s2 a' w' S2 β2 → RV w' S2 β2 (resAV xs) u → R (.returned u) w') : Calls P f cargs.toArray w R := by
  have hlen := hargs.length
  have hN : fn.ntmps ≤ cargs.length + (fn.ntmps - cargs.length) := by omega
  have rel0 : RelE E B (cargs.length + (fn.ntmps - cargs.length)) w S β0 ⟨numbered 0 (args.map noGd) [], hin⟩ { tmps := cargs.toArray ++ Array.replicate (fn.ntmps - cargs.toArray.size) undef, defers := [] } w := by
    refine ⟨S, β0, inv, fun n => ?_, fun n j b want x hn => ?_, Blw.refl _ _, fun _ h => h, fun _ h => .inl h, fun _ _ _ _ h => h, by simp, rfl⟩
    · unfold getT
      rw [mget_numbered _ 0 [] n]
      simp only [Nat.zero_add, List.length_map, Nat.sub_zero, List.getElem?_map, Nat.zero_le, true_and]
      by_cases hn : n < args.length
      · rw [if_pos hn, List.getElem?_eq_getElem hn]
        obtain ⟨u, hu, hru⟩ := hargs.get (List.getElem?_eq_getElem hn)
        have : (cargs.toArray ++ Array.replicate (fn.ntmps - cargs.toArray.size) undef).getD n undef = u := by
          rw [Array.getD_eq_getD_getElem?, Array.getElem?_append_left (by simp; omega)]
          simp [hu]
        rw [this]
        exact noGd_rv hru
      · rw [if_neg hn]; trivial
    · exfalso
      unfold getT at hn
      rw [mget_numbered _ 0 [] n] at hn
      simp only [Nat.zero_add, List.length_map, Nat.sub_zero, List.getElem?_map, Nat.zero_le, true_and] at hn
      by_cases hl : n < args.length
      · rw [if_pos hl, List.getElem?_eq_getElem hl] at hn
        exact noGd_ne hn
      · rw [if_neg hl] at hn
        cases hn
  have hd' : dstsOK (cargs.length + (fn.ntmps - cargs.length)) c = true := by
    have mono : ∀ c, dstsOK fn.ntmps c = true → dstsOK (cargs.length + (fn.ntmps - cargs.length)) c = true := by
      intro c
      induction c with
      | region id ops dr =>
        intro hh
        refine List.all_eq_true.2 fun o ho => ?_
        have := List.all_eq_true.1 hh o ho
        cases hod : o.dst with
        | none => rfl
        | some d => rw [hod] at this; simp at this ⊢; omega
      | seq x y ihx ihy => intro hh; simp only [dstsOK, Bool.and_eq_true] at hh ⊢; exact ⟨ihx hh.1, ihy hh.2⟩
      | cond q x y ihx ihy => intro hh; simp only [dstsOK, Bool.and_eq_true] at hh ⊢; exact ⟨ihx hh.1, ihy hh.2⟩
      | block id x ih => intro hh; exact ih hh
      | loop x ih => intro hh; exact ih hh
      | _ => intro _; rfl
    exact mono c hd
  refine calls_of_wp hf hc (h1 _ _ w hd' rel0 _ fun a' w' rel2 => ?_)
  obtain ⟨S2, β2, rel⟩ := rel2
  obtain ⟨u, hu1, hu2⟩ := run_results ok rel fn h3
  rcases he with rfl | rfl
  · exact ⟨rel.defers, u, hu1, hQ w' S2 β2 a' u rel hu2⟩
  · exact ⟨rel.defers, u, hu1, hQ w' S2 β2 a' u rel hu2⟩
theorem run_startE (ok : EnvOK P E) (hm : P.follows .mixedOrders = true) {f : FuncId} {fn : Func} (hf : P.funcs[f]? = some fn) (hlp : ∀ x ∈ Func.loops fn, ∀ s e s', (E.lp (lid x) s).val = some (e, s') → LoopOK E x s e s')
    {c : Code} (hc : fn.body = some c) (hd : dstsOK fn.ntmps c = true) {hin : Heap} {args : List AV} {cargs : List Value} (inv : Inv E B w S β0 hin) (hargs : RL (RV w S β0) args cargs) {s2 : St} {ee : Ex} (he : ee = .normal ∨ ee = .ret)
    (h1 : (exec E c ⟨numbered 0 (args.map noGd) [], hin⟩).val = some (ee, s2)) {xs : List AV} (h3 : (ress E s2 fn.results.toList).val = some xs) {R : Ending → World → Prop}
    (hQ : ∀ w' S2 β2 a' u, Rel E B (cargs.length + (fn.ntmps - cargs.length)) w S β0 s2 a' w' S2 β2 → RV w' S2 β2 (resAV xs) u → R (.returned u) w') : Calls P f cargs.toArray w R :=
  have hlp' : ∀ x ∈ loopsOf c, x ∈ Func.loops fn := fun x hx => by unfold Func.loops; rw [hc]; exact hx
  run_startC ok hf hc hd inv hargs he (fun N a w' hdN rel Q hQ' => exec_sound ok hm hlp c hlp' hdN _ ee s2 a w' Q rel h1 hQ') h3 hQ
theorem runC_sound (ok : EnvOK P E) {f : FuncId} {fn : Func} (hf : P.funcs[f]? = some fn) {c : Code} (hc : fn.body = some c) (hd : dstsOK fn.ntmps c = true) {keep : Bool} {args : List AV} {r : AV} {H : Heap} {s2 : St}
    (h1 : ∀ (w : World) (S : Nat → Prop), (∀ b, S b → b < w.heap.size) → ∀ N a w', dstsOK N c = true → RelE E (fun b => b < w.heap.size) N w S noKeys ⟨numbered 0 (args.map noGd) [], []⟩ a w' → ∀ Q : Exit → Act → World → Prop, (∀ a1 w1, RelE E (fun b => b < w.heap.size) N w S noKeys s2 a1 w1 → Q (exOf .ret) a1 w1) → c.wp P Q a w')
    {xs : List AV} (h3 : (ress E s2 fn.results.toList).val = some xs) (h4 : (finish keep s2 (resAV xs)).val = some (r, H)) : SpecP P E.glob f args r H := by
  intro w S cargs hlt hglob hargs
  have inv0 : Inv E (fun b => b < w.heap.size) w S noKeys [] := ⟨fun _ h => h, hlt, (fun _ _ _ _ h => by cases h), (fun _ _ h => by cases h), (fun _ _ h => by cases h), (fun k bl hk => by simp [mget] at hk), hglob⟩
  refine run_startC ok hf hc hd inv0 hargs (.inr rfl) (h1 w S hlt) h3 fun w' S2 β2 a' u rel hu2 => ?_
  have inv := rel.inv
  refine ⟨u, ?_⟩
  have h4' : (finish keep s2 (resAV xs)).val = some (r, H) := h4
  generalize resAV xs = r0 at hu2 h4'
  unfold finish at h4'
  cases keep with
  | false =>
    simp only [T.ret_some] at h4'
    cases h4'
    refine ⟨plusOwn S2 β2, noKeys, rfl, rel.below.below, fun b hb => .inl (rel.sub b hb), ?_, ?_, (fun _ _ _ _ h => by cases h), (fun _ _ h => by cases h), (fun _ _ h => by cases h), (fun k bl hk => by simp [mget] at hk), view2_rep (fun b hb => .inl hb) (sees_own inv _) hu2⟩
    · rintro b (hb | ⟨k, x, k1, k2, rfl⟩)
      · exact (rel.news b hb).imp id (fun h => by omega)
      · exact .inr (by have := (inv.new k x k1 k2).1; omega)
    · rintro b (hb | ⟨k, x, k1, k2, rfl⟩)
      · exact inv.lt b hb
      · exact (inv.new k x k1 k2).2.1
  | true =>
    simp only [] at h4'
    split at h4'
    · rename_i hnd
      split at h4'
      · rename_i H' hH
        rw [T.ret_some] at h4'
        cases h4'
        have hnd := nodupB_spec hnd
        obtain ⟨q1, q2⟩ := keptB_spec hH
        let β3 : Nat → Option BI := fun p => ((refs2 r0)[p]?).bind β2
        have b3 : ∀ p x, β3 p = some x → ∃ j, (refs2 r0)[p]? = some j ∧ β2 j = some x := by
          intro p x hp
          simp only [β3, Option.bind_eq_some_iff] at hp
          exact hp
        have b4 : ∀ j ∈ refs2 r0, ∀ x, β2 j = some x → β3 (posIn (refs2 r0) j) = some x := by
          intro j hj x hx
          simp only [β3, posIn_get hj, Option.bind_some, hx]
        have pinj : ∀ p j, (refs2 r0)[p]? = some j → posIn (refs2 r0) j = p := by
          intro p j hp
          have h1 := posIn_get (List.mem_of_getElem? hp)
          have l1 := (List.getElem?_eq_some_iff.1 h1)
          have l2 := (List.getElem?_eq_some_iff.1 hp)
          obtain ⟨l1, e1⟩ := l1
          obtain ⟨l2, e2⟩ := l2
          exact nodup_inj hnd l1 l2 (by rw [e1, e2])
        refine ⟨S2, β3, rfl, rel.below.below, rel.sub, fun b hb => (rel.news b hb).imp id (fun h => by omega), inv.lt, ?_, ?_, ?_, ?_, ?_⟩
        · intro k k' x x' k1 k2 r1 r2 e
          obtain ⟨j, j1, j2⟩ := b3 k x k1
          obtain ⟨j', j1', j2'⟩ := b3 k' x' k2
          have := inv.inj j j' x x' j2 j2' r1 r2 e
          subst this
          rw [← pinj k j j1, ← pinj k' j j1']
        · intro k x k1 r1
          obtain ⟨j, j1, j2⟩ := b3 k x k1
          obtain ⟨n1, n2, n3⟩ := inv.new j x j2 r1
          exact ⟨by omega, n2, n3⟩
        · intro k x k1
          obtain ⟨j, j1, j2⟩ := b3 k x k1
          obtain ⟨bl, m1, m2, b2, m3⟩ := q2 j (List.mem_of_getElem? j1)
          rw [pinj k j j1] at m3
          obtain ⟨j', n1, n2, n3, n4⟩ := q1 k b2 m3
          have hj' : j' = j := by
            have := posIn_get n1
            rw [← n2, j1] at this
            cases this; rfl
          subst hj'
          obtain ⟨bl', d1, d2, d3⟩ := inv.dom j' x j2
          rw [n3] at d1
          cases d1
          refine ⟨b2, m3, n4, fun hre => ?_, fun hre => (d3 hre).1⟩
          obtain ⟨cs, ty, c1, c2, c3, c4, c5, c6, c7, c8⟩ := d2 hre
          refine ⟨cs, ty, c1, c2, c3, c4, c5, c6, c7, fun i row hi => ⟨(c8 i row hi).1, fun q y hy => ?_⟩⟩
          obtain ⟨u1, hu, hru⟩ := (c8 i row hi).2 q y hy
          rw [n4] at hru
          exact ⟨u1, hu, by rw [n4]; simpa using hru⟩
        · intro k bl hk
          obtain ⟨j, n1, n2, n3, n4⟩ := q1 k bl hk
          obtain ⟨x, hx⟩ := inv.cov j bl n3
          exact ⟨x, by rw [n2]; exact b4 j n1 x hx⟩
        · -- the result
          have k0 : ∀ x u, (∀ k ∈ refsC x, k ∈ refs2 r0) → RC w' S2 β2 x u → RC w' S2 β3 (keep0 s2.h (refs2 r0) x) u := by
            intro x u hk hx
            by_cases hn : ∃ k, x = .own k
            · obtain ⟨k, rfl⟩ := hn
              obtain ⟨y, y1, y2⟩ := hx
              exact ⟨y, b4 k (hk k (by simp [refsC, refs0])) y y1, y2⟩
            by_cases hw : ∃ k lo n, x = .win k lo n
            · obtain ⟨k, lo, n, rfl⟩ := hw
              exact R0.rc (.unk hx.one)
            · have e : keep0 s2.h (refs2 r0) x = view0 (mget s2.h) x := by cases x <;> first | rfl | exact absurd ⟨_, rfl⟩ hn | exact absurd ⟨_, _, _, rfl⟩ hw
              rw [e]
              exact (view0_noown (fun k e => hn ⟨k, e⟩) (fun k lo n e => hw ⟨k, lo, n, e⟩) hx).rc
          have k1 : ∀ x u, (∀ k ∈ refs1 x, k ∈ refs2 r0) → RT w' S2 β2 x u → RT w' S2 β3 (keep1 s2.h (refs2 r0) x) u := by
            intro x u hk hx
            by_cases hn : ∃ cs, x = .agg cs
            · obtain ⟨cs, rfl⟩ := hn
              obtain ⟨vs, v1, v2⟩ := hx
              exact ⟨vs, v1, v2.map fun b hb u hu => k0 b u (fun k hkk => hk k (by simp only [refs1, List.mem_flatMap]; exact ⟨b, hb, hkk⟩)) hu⟩
            · have hn' : ∀ cs, x ≠ .agg cs := fun cs e => hn ⟨cs, e⟩
              by_cases hun : x = .unk
              · subst hun; trivial
              · rw [RT_eq hn' hun] at hx
                rw [refs1_eq hn'] at hk
                have e : keep1 s2.h (refs2 r0) x = keep0 s2.h (refs2 r0) x := by cases x <;> first | rfl | exact absurd rfl (hn' _)
                rw [e]
                exact (k0 x u hk hx).rt
          by_cases hn : ∃ cs, r0 = .tup cs
          · obtain ⟨cs, rfl⟩ := hn
            obtain ⟨vs, v1, v2⟩ := hu2
            exact ⟨vs, v1, v2.map fun b hb u hu => k1 b u (fun k hkk => by simp only [refs2, List.mem_flatMap]; exact ⟨b, hb, hkk⟩) hu⟩
          · have hn' : ∀ cs, r0 ≠ .tup cs := fun cs e => hn ⟨cs, e⟩
            by_cases hgd : ∃ j b want y, r0 = .gd j b want y
            · obtain ⟨j, b, want, y, rfl⟩ := hgd
              trivial
            · have hgd' : ∀ j b w y, r0 ≠ .gd j b w y := fun j b w y e => hgd ⟨j, b, w, y, e⟩
              rw [RV_eq hn' hgd'] at hu2
              have e : keep2 s2.h (refs2 r0) r0 = keep1 s2.h (refs2 r0) r0 := by cases r0 <;> first | rfl | exact absurd rfl (hn' _)
              rw [e]
              exact RT.rv (k1 r0 u (fun k hkk => by rw [refs2_eq hn' hgd']; exact hkk) hu2)
      · rw [T.fail_some] at h4'; exact h4'.elim
    · rw [T.fail_some] at h4'; exact h4'.elim
theorem runF_sound (ok : EnvOK P E) (hm : P.follows .mixedOrders = true) {f : FuncId} {fn : Func} (hf : P.funcs[f]? = some fn) (hlp : ∀ x ∈ Func.loops fn, ∀ s e s', (E.lp (lid x) s).val = some (e, s') → LoopOK E x s e s')
    {keep : Bool} {args : List AV} {r : AV} {H : Heap} (hr : (runF E keep fn args).val = some (r, H)) : SpecP P E.glob f args r H := by
  intro w S cargs hlt hglob hargs
  unfold runF at hr
  split at hr
  · rw [T.fail_some] at hr; exact hr.elim
  · rename_i c hc
    split at hr
    · rename_i hd
      rw [T.bind_some] at hr
      obtain ⟨⟨e, s2⟩, h1, h2⟩ := hr
      simp only [] at h2
      cases e with
      | normal => rw [T.fail_some] at h2; exact h2.elim
      | exit i => rw [T.fail_some] at h2; exact h2.elim
      | ret =>
        rw [T.bind_some] at h2
        obtain ⟨xs, h3, h4⟩ := h2
        have hlp' : ∀ x ∈ loopsOf c, x ∈ Func.loops fn := fun x hx => by unfold Func.loops; rw [hc]; exact hx
        exact runC_sound ok hf hc hd (fun w S _ N a w' hdN rel Q hQ' => exec_sound ok hm hlp c hlp' hdN _ .ret s2 a w' Q rel h1 hQ') h3 h4 w S cargs hlt hglob hargs
    · rw [T.fail_some] at hr; exact hr.elim
theorem outHeap_of {hg : Nat → Option Blk} {f : Nat → Nat} : ∀ {l : List Nat} {k' : Nat} {bl : Blk}, mget (outHeap hg f l) k' = some bl → ∃ k ∈ l, k' = f k ∧ ∃ b, hg k = some b ∧ bl = b.ren f
  | [], k', bl, hh => by cases hh
  | k :: l, k', bl, hh => by
    simp only [outHeap] at hh
    split at hh
    · rename_i b hb
      simp only [mget] at hh
      split at hh
      · rename_i he
        cases hh
        exact ⟨k, by simp, beq_true.1 he, b, hb, rfl⟩
      · obtain ⟨k1, h1, h2⟩ := outHeap_of hh
        exact ⟨k1, by simp [h1], h2⟩
    · obtain ⟨k1, h1, h2⟩ := outHeap_of hh
      exact ⟨k1, by simp [h1], h2⟩
theorem outHeap_some {hg : Nat → Option Blk} {f : Nat → Nat} : ∀ {l : List Nat} {k : Nat}, k ∈ l → hg k ≠ none → mget (outHeap hg f l) (f k) ≠ none
  | j :: l, k, hk, hb => by
    simp only [outHeap]
    by_cases e : k = j
    · subst e
      cases hj : hg k with
      | none => exact absurd hj hb
      | some b => simp [mget]
    · have hl : k ∈ l := by rcases List.mem_cons.1 hk with h | h; exact absurd h e; exact h
      split
      · simp only [mget]
        split
        · simp
        · exact outHeap_some hl hb
      · exact outHeap_some hl hb
theorem posIn_at {ks : List Nat} (hn : ks.Nodup) {i k : Nat} (hi : ks[i]? = some k) : posIn ks k = i := by
  obtain ⟨l1, e1⟩ := List.getElem?_eq_some_iff.1 (posIn_get (List.mem_of_getElem? hi))
  obtain ⟨l2, e2⟩ := List.getElem?_eq_some_iff.1 hi
  exact nodup_inj hn l1 l2 (by rw [e1, e2])
theorem runH_sound (ok : EnvOK P E) (hm : P.follows .mixedOrders = true) {f : FuncId} {fn : Func} (hf : P.funcs[f]? = some fn) (hlp : ∀ x ∈ Func.loops fn, ∀ s e s', (E.lp (lid x) s).val = some (e, s') → LoopOK E x s e s')
    {mv mv' : List Nat} {args : List AV} {hin : Heap} {r : AV} {H : Heap} (hr : (runH E mv fn args hin).val = some (r, H, mv')) : SpecH P E.glob f args hin r H mv' := by
  intro w S β cargs inv0 hargs
  unfold runH at hr
  split at hr
  · rw [T.fail_some] at hr; exact hr.elim
  · rename_i c hc
    split at hr
    · rename_i hck
      rw [Bool.and_eq_true] at hck
      obtain ⟨hd, hins⟩ := hck
      have hins : ∀ k ∈ hin.map (·.1), inK k ∧ (k ∉ mv → E.mv k = false) := fun k hk => by
        have := List.all_eq_true.1 hins k hk
        rw [Bool.and_eq_true] at this
        refine ⟨isIn_true.1 this.1, fun hn => ?_⟩
        have h2 := this.2
        rw [Bool.or_eq_true] at h2
        rcases h2 with h2 | h2
        · exact absurd (elem_true h2) hn
        · simpa using h2
      rw [T.bind_some] at hr
      obtain ⟨⟨e, s2⟩, h1, h2⟩ := hr
      simp only [] at h2
      have hee : (e = .normal ∨ e = .ret) ∧ ((ress E s2 fn.results.toList).bind fun as1 => finishH (hin.map (·.1)) mv s2 (resAV as1)).val = some (r, H, mv') := by
        cases e with
        | normal => exact ⟨.inl rfl, h2⟩
        | exit i => rw [T.fail_some] at h2; exact h2.elim
        | ret => exact ⟨.inr rfl, h2⟩
      obtain ⟨hee, h2⟩ := hee
      · skip
        rw [T.bind_some] at h2
        obtain ⟨xs, h3, h4⟩ := h2
        refine run_startE ok hm hf hlp hc hd inv0 hargs hee h1 h3 fun w' S2 β2 a' u rel hu2 => ?_
        have inv := rel.inv
        generalize resAV xs = r0 at hu2 h4
        generalize hin.map (·.1) = ins at hins h4
        unfold finishH finH1 finH2 at h4
        split at h4
        · rename_i hck
          rw [T.ret_some] at h4
          cases h4
          rw [Bool.and_eq_true, Bool.and_eq_true] at hck
          obtain ⟨⟨hcl, hnd⟩, hle⟩ := hck
          have hsub : ∀ k ∈ addK ins (refs2 r0), k ∈ reach (mget s2.h) 2 (addK ins (refs2 r0)) := fun k hk => mem_reach 2 hk
          generalize reach (mget s2.h) 2 (addK ins (refs2 r0)) = ks at hcl hnd hle hsub
          have hi : ∀ k ∈ ins, k ∈ ks := fun k hk => hsub k (mem_addK.2 (.inl hk))
          have hr0 : ∀ k ∈ refs2 r0, k ∈ ks := fun k hk => hsub k (mem_addK.2 (.inr hk))
          have hnd := nodupB_spec hnd
          have hcl := closedK_spec hcl
          have hmem : ∀ k, k ∈ (ks.filter fun k => !(ins.elem k)) ↔ k ∈ ks ∧ k ∉ ins := fun k => by rw [List.mem_filter]; simp
          have hndn : (ks.filter fun k => !(ins.elem k)).Nodup := hnd.filter _
          generalize (ks.filter fun k => !(ins.elem k)) = new at hle hmem hndn
          have hle : new.length ≤ 4 := by simpa using hle
          have rin : ∀ k, k ∈ ins → renF ins new k = k := fun k hk => by
            unfold renF
            have : ins.elem k = true := by simpa using hk
            rw [this]
          have rnew : ∀ k, k ∉ ins → renF ins new k = posIn new k := fun k hk => by
            unfold renF
            have : ins.elem k = false := by rw [← Bool.not_eq_true]; exact fun hh => hk (elem_true hh)
            rw [this]
          have pos_lt : ∀ k ∈ ks, k ∉ ins → posIn new k < 4 := fun k hk hn => by
            obtain ⟨l, _⟩ := List.getElem?_eq_some_iff.1 (posIn_get ((hmem k).2 ⟨hk, hn⟩))
            omega
          have inge : ∀ k ∈ ins, 900 ≤ k := fun k hk => (hins k hk).1.1
          have rinj : ∀ k ∈ ks, ∀ k' ∈ ks, renF ins new k = renF ins new k' → k = k' := by
            intro k hk k' hk' e
            by_cases h1 : k ∈ ins <;> by_cases h2 : k' ∈ ins
            · rw [rin k h1, rin k' h2] at e; exact e
            · rw [rin k h1, rnew k' h2] at e
              have := inge k h1; have := pos_lt k' hk' h2; omega
            · rw [rnew k h1, rin k' h2] at e
              have := inge k' h2; have := pos_lt k hk h1; omega
            · rw [rnew k h1, rnew k' h2] at e
              have e1 := posIn_get ((hmem k).2 ⟨hk, h1⟩)
              have e2 := posIn_get ((hmem k').2 ⟨hk', h2⟩)
              rw [e, e2] at e1
              cases e1; rfl
          let β3 : Nat → Option BI := fun k => if k ∈ ins then β2 k else (new[k]?).bind β2
          have b1 : ∀ j ∈ ks, ∀ x, β2 j = some x → β3 (renF ins new j) = some x := by
            intro j hj x hx
            by_cases h1 : j ∈ ins
            · simp only [β3]; rw [rin j h1, if_pos h1]; exact hx
            · have hlt := pos_lt j hj h1
              simp only [β3]
              rw [rnew j h1, if_neg (fun hh => by have := inge _ hh; omega), posIn_get ((hmem j).2 ⟨hj, h1⟩)]
              exact hx
          have b2 : ∀ k x, β3 k = some x → ∃ j ∈ ks, renF ins new j = k ∧ β2 j = some x := by
            intro k x hx
            simp only [β3] at hx
            split at hx
            · rename_i h1; exact ⟨k, hi k h1, rin k h1, hx⟩
            · rw [Option.bind_eq_some_iff] at hx
              obtain ⟨j, j1, j2⟩ := hx
              obtain ⟨q1, q2⟩ := (hmem j).1 (List.mem_of_getElem? j1)
              exact ⟨j, q1, by rw [rnew j q2, posIn_at hndn j1], j2⟩
          have hat : ∀ j ∈ ks, ∀ b, mget s2.h j = some b → mget (outHeap (mget s2.h) (renF ins new) ks) (renF ins new j) = some (b.ren (renF ins new)) := by
            intro j hj b hb
            cases hm : mget (outHeap (mget s2.h) (renF ins new) ks) (renF ins new j) with
            | none => exact absurd hm (outHeap_some hj (by rw [hb]; simp))
            | some bl =>
              obtain ⟨j', q1, q2, b', q3, rfl⟩ := outHeap_of hm
              have := rinj j hj j' q1 q2
              subst this
              rw [hb] at q3
              cases q3; rfl
          have hsz := rel.below.size
          refine ⟨u, S2, β3, rfl, rel.below, rel.sub, rel.news, ⟨fun b hb => by have := hb.1; omega, inv.lt, fun k k' x x' k1 k2 r1 r2 e => ?_, fun k x k1 r1 => ?_, fun k x k1 => ?_, fun k bl k1 => ?_, inv.glob⟩, fun k x hik hmv hx => ?_, ren2_rv (fun k hk y hy => b1 k (hr0 k hk) y hy) hu2⟩
          · obtain ⟨j, _, e1, j2⟩ := b2 k x k1
            obtain ⟨j', _, e2, j2'⟩ := b2 k' x' k2
            rw [← e1, ← e2, inv.inj j j' x x' j2 j2' r1 r2 e]
          · obtain ⟨j, _, e1, j2⟩ := b2 k x k1
            exact inv.new j x j2 r1
          · obtain ⟨j, j1, e1, j2⟩ := b2 k x k1
            obtain ⟨bl, d1, d2, d3⟩ := inv.dom j x j2
            obtain ⟨bl', c1, c2⟩ := hcl j j1
            rw [d1] at c1
            cases c1
            exact ⟨bl.ren (renF ins new), by rw [← e1]; exact hat j j1 bl d1, fun hr => (d2 hr).ren fun q hq y hy => b1 q (c2 q hq) y hy, fun hr => ren_virt (d3 hr)⟩
          · obtain ⟨j, q1, q2, b, q3, rfl⟩ := outHeap_of k1
            obtain ⟨x, hx⟩ := inv.cov j b q3
            exact ⟨x, by rw [q2]; exact b1 j q1 x hx⟩
          · obtain ⟨j, j1, e1, j2⟩ := b2 k x hx
            by_cases hj : j ∈ ins
            · rw [rin j hj] at e1
              subst e1
              exact rel.fix j x hik ((hins j hj).2 hmv) j2
            · rw [rnew j hj] at e1
              have := pos_lt j j1 hj
              have := hik.1
              omega
        · rw [T.fail_some] at h4; exact h4.elim
    · rw [T.fail_some] at hr; exact hr.elim
theorem SpecP.nil {G : Nat → Option GR} {f : FuncId} {rows : List Row} {r : AV} {H : Heap} (h1 : rows = [] → SpecP P G f [.nz true []] r H) (h2 : SpecP P G f [.nz false rows] r H) : SpecP P G f [.sl rows] r H := by
  intro w S cargs hlt hg hargs
  cases cargs with
  | nil => exact hargs.elim
  | cons v l =>
    cases l with
    | cons u l => exact hargs.2.elim
    | nil =>
      have h0 : R0 w S (.sl rows) v := hargs.1
      cases hv : isNilV v
      · exact h2 w S [v] hlt hg ⟨⟨h0, hv⟩, trivial⟩
      · have hr : rows = [] := by
          cases h0 with
          | sl hc hm hA hl hcell hr =>
            by_cases hn : rows = []
            · exact hn
            · rw [(hA hn).1] at hv; cases hv
        subst hr
        exact h1 rfl w S [v] hlt hg ⟨⟨h0, hv⟩, trivial⟩
end

end

end Go.Proofs.YtajmdlpanlbnjaaGreatDoor.M

namespace Go.Proofs.YtajmdlpanlbnjaaGreatDoor.M
open Go Go.RowKit
set_option linter.unusedVariables false
set_option linter.unusedSimpArgs false

section
variable {α β : Type} {P : Program} {G : Nat → Option GR}
noncomputable def unenc (enc : α → β) (b : β) : Option α := by classical exact if h : ∃ a, enc a = b then some (Classical.choose h) else none
theorem unenc_some {enc : α → β} {b : β} {a : α} (h : unenc enc b = some a) : b = enc a := by
  unfold unenc at h
  split at h
  · rename_i hx
    have := Classical.choose_spec hx
    simp only [Option.some.injEq] at h
    rw [h] at this
    exact this.symm
  · cases h
theorem unenc_of {enc : α → β} (hi : ∀ a a', enc a = enc a' → a = a') {b : β} (a : α) (hb : b = enc a) : unenc enc b = some a := by
  subst hb
  unfold unenc
  have hx : ∃ a', enc a' = enc a := ⟨a, rfl⟩
  rw [dif_pos hx]
  exact congrArg some (hi _ _ (Classical.choose_spec hx))

def OkA (x : AV) : Prop := ∃ w S β v, RV w S β x v
theorem okA_v {x : Value} (h : OkA (.v x)) : okAtom x := by
  obtain ⟨w, S, β, v, h⟩ := h
  exact (rv_v h).2
theorem okA_int {n : Int} (h : OkA (.v (.int .i64 n))) : -9223372036854775808 ≤ n ∧ n ≤ 9223372036854775807 := by
  have := okA_v h
  simp only [okAtom, IntKind.min, IntKind.max, IntKind.signed, IntKind.bits] at this
  simp at this
  omega
theorem okA_str {s : ByteArray} (h : OkA (.v (.string s))) : s.size ≤ 9223372036854775807 := okA_v h
theorem okA_agg {cs : List AV} (h : OkA (.agg cs)) : ∀ c ∈ cs, OkA c := by
  obtain ⟨w, S, β, v, vs, h1, h2⟩ := h
  intro c hc
  obtain ⟨i, hi⟩ := List.getElem?_of_mem hc
  obtain ⟨u, _, hu⟩ := h2.get hi
  exact ⟨w, S, β, u, RT.rv (RC.rt hu)⟩
theorem okA_sl {rows : List Row} (h : OkA (.sl rows)) : rows.length ≤ 9223372036854775807 ∧ ∀ row ∈ rows, ∀ a ∈ row, OkA a := by
  obtain ⟨w, S, β, v, h⟩ := h
  have h' : R0 w S (.sl rows) v := h
  cases h' with
  | sl hc hm hA hl hcell hr =>
    refine ⟨by omega, fun row hrow a ha => ?_⟩
    obtain ⟨i, hi⟩ := List.getElem?_of_mem hrow
    obtain ⟨j, hj⟩ := List.getElem?_of_mem ha
    exact ⟨w, S, β, _, RT.rv (RC.rt (R0.rc (hr i j row a hi hj)))⟩
theorem SpecP.ok {f : FuncId} {args : List AV} {r : AV} {H : Heap} (h : (∀ x ∈ args, OkA x) → SpecP P G f args r H) : SpecP P G f args r H := by
  intro w S cargs hlt hg hargs
  refine h (fun x hx => ?_) w S cargs hlt hg hargs
  obtain ⟨i, hi⟩ := List.getElem?_of_mem hx
  obtain ⟨u, _, hu⟩ := hargs.get hi
  exact ⟨w, S, noKeys, u, hu⟩

def OkK (bl : Blk) : Prop := bl.rows.length ≤ 9223372036854775807 ∧ ∀ row ∈ bl.rows, ∀ a ∈ row, OkA a
theorem SpecH.ok {f : FuncId} {args : List AV} {hin : Heap} {r : AV} {H : Heap} {mv : List Nat} (h : (∀ x ∈ args, OkA x) → (∀ k bl, mget hin k = some bl → OkK bl) → SpecH P G f args hin r H mv) : SpecH P G f args hin r H mv := by
  intro w S β cargs inv hargs
  refine h (fun x hx => ?_) (fun k bl hk => ?_) w S β cargs inv hargs
  · obtain ⟨i, hi⟩ := List.getElem?_of_mem hx
    obtain ⟨u, _, hu⟩ := hargs.get hi
    exact ⟨w, S, β, u, hu⟩
  · obtain ⟨x, hx⟩ := inv.cov k bl hk
    obtain ⟨bl', h1, h2, h3⟩ := inv.dom k x hx
    rw [hk] at h1
    cases h1
    cases hr : x.real
    · rw [OkK, (h3 hr).1]; simp
    · obtain ⟨cs, ty, c1, c2, c3, c4, c5, c6, c7, c8⟩ := h2 hr
      refine ⟨by omega, fun row hrow a ha => ?_⟩
      obtain ⟨i, hi⟩ := List.getElem?_of_mem hrow
      obtain ⟨j, hj⟩ := List.getElem?_of_mem ha
      obtain ⟨v, _, hv⟩ := (c8 i row hi).2 j a hj
      cases hb : bl.box
      · rw [hb] at hv; exact ⟨w, S, β, v, RT.rv (RC.rt (R0.rc (by simpa using hv)))⟩
      · rw [hb] at hv; exact ⟨w, S, β, v, RT.rv (RC.rt (by simpa using hv))⟩

structure Orc where
  f : FuncId
  flat : Bool
  o : List AV → T (AV × Heap)
noncomputable def orc (f : FuncId) (flat : Bool) (enc : α → List AV) (pre : α → Bool) (res : α → AV × Heap) : Orc :=
  ⟨f, flat, fun args => .opt (unenc enc args) fun a => .ifB (pre a) (.ret (res a)) .fail⟩
def findO : List Orc → FuncId → List AV → T (AV × Heap)
  | [], _, _ => .fail
  | x :: r, f, args => match Nat.beq x.f f with
    | true => x.o args
    | false => findO r f args
def flatO : List Orc → FuncId → Bool
  | [], _ => false
  | x :: r, f => match Nat.beq x.f f with
    | true => x.flat
    | false => flatO r f
structure OrcH where
  f : FuncId
  o : List AV → Heap → T (AV × Heap × List Nat)
noncomputable def orcH (f : FuncId) (enc : α → List AV × Heap) (pre : α → Bool) (res : α → AV × Heap × List Nat) : OrcH :=
  ⟨f, fun args h => .opt (unenc enc (args, h)) fun a => .ifB (pre a) (.ret (res a)) .fail⟩
def findH : List OrcH → FuncId → List AV → Heap → T (AV × Heap × List Nat)
  | [], _, _, _ => .fail
  | x :: r, f, args, h => match Nat.beq x.f f with
    | true => x.o args h
    | false => findH r f args h
def hpO : List OrcH → FuncId → Bool
  | [], _ => false
  | x :: r, f => match Nat.beq x.f f with
    | true => true
    | false => hpO r f
def findL : List (Nat × (St → T (Ex × St))) → Nat → St → T (Ex × St)
  | [], _, _ => .fail
  | x :: r, n, s => match Nat.beq x.1 n with
    | true => x.2 s
    | false => findL r n s
noncomputable def lkp (enc : α → Row) (d : α) : List Row → Nat → T Row := fun rows k =>
  .opt (unenc (List.map enc) rows) fun xs => .ifB (decide (k < xs.length)) (.ret (enc (xs.getD k d))) .fail
structure Lk where
  t : Nat
  o : List Row → Nat → T Row
def LkOK (x : Lk) : Prop := ∀ rows k row, (x.o rows k).val = some row → rows[k]? = some row
theorem lkp_ok {enc : α → Row} {d : α} {t : Nat} : LkOK ⟨t, lkp enc d⟩ := by
  intro rows k row h
  simp only [lkp, T.opt_some, T.ifB_some, T.ret_some, T.fail_some, and_false, or_false, decide_eq_true_eq] at h
  obtain ⟨xs, h1, h2, h3⟩ := h
  have := unenc_some h1
  subst this
  simp [← h3, List.getD, h2]
def findK : List Lk → Nat → List Row → Nat → T Row
  | [], _, rows, k => .opt rows[k]? .ret
  | x :: r, t, rows, k => match Nat.beq x.t t with
    | true => x.o rows k
    | false => findK r t rows k
theorem findK_ok {ks : List Lk} (h : ∀ x ∈ ks, LkOK x) : ∀ t rows k row, (findK ks t rows k).val = some row → rows[k]? = some row := by
  induction ks with
  | nil =>
    intro t rows k row hr
    simp only [findK, T.opt_some, T.ret_some] at hr
    obtain ⟨r, h1, rfl⟩ := hr
    exact h1
  | cons x r ih =>
    intro t rows k row hr
    simp only [findK] at hr
    split at hr
    · exact h x (by simp) _ _ _ hr
    · exact ih (fun y hy => h y (by simp [hy])) t rows k row hr
def envH (ty : TypeId → Option TI) (glob : Nat → Option GR) (ks : List Lk) (fs : List Orc) (hs : List OrcH) (mv : List Nat) (ls : List (Nat × (St → T (Ex × St)))) : Env :=
  ⟨ty, glob, flatO fs, findO fs, findL ls, findK ks, fun k => mv.elem k, hpO hs, findH hs⟩
structure OrcHOK (P : Program) (G : Nat → Option GR) (x : OrcH) : Prop where
  spec : ∀ args hin r H mv, (x.o args hin).val = some (r, H, mv) → SpecH P G x.f args hin r H mv
  here : Here P x.f
theorem orcH_ok {f : FuncId} {enc : α → List AV × Heap} {pre : α → Bool} {res : α → AV × Heap × List Nat} (hh : Here P f)
    (h : ∀ a, pre a = true → (∀ x ∈ (enc a).1, OkA x) → (∀ k bl, mget (enc a).2 k = some bl → OkK bl) → SpecH P G f (enc a).1 (enc a).2 (res a).1 (res a).2.1 (res a).2.2) : OrcHOK P G (orcH f enc pre res) := by
  refine ⟨fun args hin r H mv hr => ?_, hh⟩
  simp only [orcH, T.opt_some] at hr
  obtain ⟨a, h1, h2⟩ := hr
  rw [T.ifB_some] at h2
  rcases h2 with ⟨h2, h3⟩ | ⟨h2, h3⟩
  · rw [T.ret_some] at h3
    have e := unenc_some h1
    have := SpecH.ok (h a h2)
    rw [h3, ← e] at this
    exact this
  · rw [T.fail_some] at h3; exact h3.elim
theorem findH_of {hs : List OrcH} {f : FuncId} {args : List AV} {hin : Heap} {p : AV × Heap × List Nat} (h : (findH hs f args hin).val = some p) : ∃ x ∈ hs, x.f = f ∧ (x.o args hin).val = some p := by
  induction hs with
  | nil => simp only [findH] at h; rw [T.fail_some] at h; exact h.elim
  | cons x r ih =>
    simp only [findH] at h
    split at h
    · rename_i hb
      exact ⟨x, by simp, beq_true.1 hb, h⟩
    · obtain ⟨y, h1, h2, h3⟩ := ih h
      exact ⟨y, by simp [h1], h2, h3⟩
structure OrcOK (P : Program) (G : Nat → Option GR) (x : Orc) : Prop where
  spec : ∀ args r H, (x.o args).val = some (r, H) → SpecP P G x.f args r H
  flat : ∀ args r H, (x.o args).val = some (r, H) → x.flat = true → frsH H = true ∧ frs2 r = true
  here : Here P x.f
theorem orc_ok {f : FuncId} {flat : Bool} {enc : α → List AV} {pre : α → Bool} {res : α → AV × Heap} (hh : Here P f)
    (h : ∀ a, pre a = true → (∀ x ∈ enc a, OkA x) → SpecP P G f (enc a) (res a).1 (res a).2) (hf : flat = true → ∀ a, frsH (res a).2 = true ∧ frs2 (res a).1 = true) : OrcOK P G (orc f flat enc pre res) := by
  have key : ∀ args r H, ((orc f flat enc pre res).o args).val = some (r, H) → ∃ a, args = enc a ∧ pre a = true ∧ res a = (r, H) := by
    intro args r H hr
    simp only [orc, T.opt_some] at hr
    obtain ⟨a, h1, h2⟩ := hr
    rw [T.ifB_some] at h2
    refine ⟨a, unenc_some h1, ?_⟩
    rcases h2 with ⟨h2, h3⟩ | ⟨h2, h3⟩
    · rw [T.ret_some] at h3
      exact ⟨h2, h3⟩
    · rw [T.fail_some] at h3; exact h3.elim
  refine ⟨fun args r H hr => ?_, fun args r H hr hfl => ?_, hh⟩
  · obtain ⟨a, rfl, h2, h3⟩ := key args r H hr
    have := SpecP.ok (h a h2)
    rw [h3] at this
    exact this
  · obtain ⟨a, rfl, h2, h3⟩ := key args r H hr
    have := hf hfl a
    rw [h3] at this
    exact this
theorem findO_of {fs : List Orc} {f : FuncId} {args : List AV} {p : AV × Heap} (h : (findO fs f args).val = some p) : ∃ x ∈ fs, x.f = f ∧ (x.o args).val = some p ∧ flatO fs f = x.flat := by
  induction fs with
  | nil => simp only [findO] at h; rw [T.fail_some] at h; exact h.elim
  | cons x r ih =>
    simp only [findO] at h
    split at h
    · rename_i hb
      exact ⟨x, by simp, beq_true.1 hb, h, by simp only [flatO, hb]⟩
    · rename_i hb
      obtain ⟨y, h1, h2, h3, h4⟩ := ih h
      exact ⟨y, by simp [h1], h2, h3, by simp only [flatO, hb]; exact h4⟩
theorem envH_ok {ty : TypeId → Option TI} {ks : List Lk} {fs : List Orc} {hs : List OrcH} {mv : List Nat} {ls : List (Nat × (St → T (Ex × St)))} (hK : ∀ x ∈ ks, LkOK x) (hT : ∀ t ti, ty t = some ti → tyOf P t = some ti)
    (hF : ∀ x ∈ fs, OrcOK P G x) (hH : ∀ x ∈ hs, OrcHOK P G x) : EnvOK P (envH ty G ks fs hs mv ls) := by
  refine ⟨⟨hT, findK_ok hK⟩, ⟨fun f args r H hr => ?_, fun f args r H hr hfl => ?_⟩, fun f args r H hr => ?_, fun f args hin r H mv hr => ?_, fun f args hin p hr => ?_⟩
  · obtain ⟨x, h1, rfl, h3, _⟩ := findO_of (fs := fs) hr
    exact (hF x h1).spec args r H h3
  · obtain ⟨x, h1, rfl, h3, h4⟩ := findO_of (fs := fs) hr
    exact (hF x h1).flat args r H h3 (by rw [← h4]; exact hfl)
  · obtain ⟨x, h1, rfl, h3, _⟩ := findO_of (fs := fs) hr
    exact (hF x h1).here
  · obtain ⟨x, h1, rfl, h3⟩ := findH_of (hs := hs) hr
    exact (hH x h1).spec args hin r H mv h3
  · obtain ⟨x, h1, rfl, h3⟩ := findH_of (hs := hs) hr
    exact (hH x h1).here
end

theorem tyTab_ok {P : Program} {L : List (Nat × TI)} (h : L.map (fun p => tyOf P p.1) = L.map (fun p => some p.2)) : ∀ t ti, mget L t = some ti → tyOf P t = some ti := by
  intro t ti ht
  have hm := mget_mem ht
  obtain ⟨i, hi⟩ := List.getElem?_of_mem hm
  have := congrArg (fun l => l[i]?) h
  simpa [hi] using this

section
variable {α : Type} {E : Env} {x : Code}
noncomputable def lpo (kt kh : List Nat) (st : α → St) (pre : α → Bool) (out : α → T (Ex × St)) : St → T (Ex × St) := fun s =>
  .opt (unenc st (less kt kh s)) fun a => .ifB (pre a && closedB (st a)) (out a) .fail
theorem lpo_ok {kt kh : List Nat} {st : α → St} {pre : α → Bool} {out : α → T (Ex × St)} (h : ∀ a, pre a = true → ∀ e s', (out a).val = some (e, s') → LoopOK E x (st a) e s') :
    ∀ s e s', (lpo kt kh st pre out s).val = some (e, s') → LoopOK E x s e s' := by
  intro s e s' hr
  simp only [lpo, T.opt_some] at hr
  obtain ⟨a, h1, h2⟩ := hr
  rw [T.ifB_some] at h2
  rcases h2 with ⟨h2, h3⟩ | ⟨h2, h3⟩
  · simp only [Bool.and_eq_true] at h2
    have := h a h2.1 e s' h3
    have e1 := unenc_some h1
    exact .weak kt kh (by rw [e1]; exact h2.2) (by rw [e1]; exact this)
  · rw [T.fail_some] at h3; exact h3.elim
def lessX (n e r : List Nat × List Nat) (p : Ex × St) : T (Ex × St) := match p.1 with
  | .normal => lessR n.1 n.2 p
  | .exit _ => lessR e.1 e.2 p
  | .ret => lessR r.1 r.2 p
theorem lessX_of {n e r : List Nat × List Nat} {t : T (Ex × St)} {ex : Ex} {s1 : St} (h : (t.bind (lessX n e r)).val = some (ex, s1)) : ∃ k : List Nat × List Nat, (t.bind (lessR k.1 k.2)).val = some (ex, s1) := by
  rw [T.bind_some] at h
  obtain ⟨⟨e0, s0⟩, h1, h2⟩ := h
  cases e0
  · exact ⟨n, T.bind_some.2 ⟨_, h1, h2⟩⟩
  · exact ⟨e, T.bind_some.2 ⟨_, h1, h2⟩⟩
  · exact ⟨r, T.bind_some.2 ⟨_, h1, h2⟩⟩
theorem LoopOK.out {n e r : List Nat × List Nat} {s s1 : St} {ex : Ex} (h : ((exec E x s).bind (lessX n e r)).val = some (ex, s1)) (hn : ex ≠ .normal) (hc : closedB s1 = true) : LoopOK E x s ex s1 := by
  obtain ⟨k, hk⟩ := lessX_of h
  exact .stop k.1 k.2 hk hn hc
theorem LoopOK.go {n e r : List Nat × List Nat} {s s1 s2 : St} {ex : Ex} (h : ((exec E x s).bind (lessX n e r)).val = some (.normal, s1)) (hc : closedB s1 = true) (hl : LoopOK E x s1 ex s2) : LoopOK E x s ex s2 := by
  obtain ⟨k, hk⟩ := lessX_of h
  exact .next k.1 k.2 hk hc hl
def runL {γ σ : Type} (step : σ → γ → Sum σ (Ex × St)) (fin : σ → Ex × St) : σ → List γ → Ex × St
  | a, [] => fin a
  | a, y :: l => match step a y with
    | .inl a' => runL step fin a' l
    | .inr o => o
theorem walk_list {γ σ : Type} {n e r : List Nat × List Nat} {xs : List γ} {st : σ → Nat → St} {step : σ → γ → Sum σ (Ex × St)} {fin : σ → Ex × St} {I : σ → Nat → Prop}
    (hfin : ∀ a, I a xs.length → ((exec E x (st a xs.length)).bind (lessX n e r)).val = some (fin a))
    (hf1 : ∀ a, I a xs.length → (fin a).1 ≠ .normal ∧ closedB (fin a).2 = true)
    (hgo : ∀ a k y, xs[k]? = some y → I a k → match step a y with
      | .inl a' => ((exec E x (st a k)).bind (lessX n e r)).val = some (.normal, st a' (k + 1)) ∧ closedB (st a' (k + 1)) = true ∧ I a' (k + 1)
      | .inr o => ((exec E x (st a k)).bind (lessX n e r)).val = some o ∧ o.1 ≠ .normal ∧ closedB o.2 = true) :
    ∀ a k, k ≤ xs.length → I a k → LoopOK E x (st a k) (runL step fin a (xs.drop k)).1 (runL step fin a (xs.drop k)).2 := by
  have main : ∀ n' a k, xs.length - k = n' → k ≤ xs.length → I a k → LoopOK E x (st a k) (runL step fin a (xs.drop k)).1 (runL step fin a (xs.drop k)).2 := by
    intro n'
    induction n' with
    | zero =>
      intro a k hn hk hI
      have : k = xs.length := by omega
      subst this
      rw [List.drop_length]
      exact .out (hfin a hI) (hf1 a hI).1 (hf1 a hI).2
    | succ m ih =>
      intro a k hn hk hI
      have hlt : k < xs.length := by omega
      have hg := hgo a k _ (List.getElem?_eq_getElem hlt) hI
      rw [List.drop_eq_getElem_cons hlt]
      simp only [runL]
      split at hg
      · rename_i a' hs
        exact .go hg.1 hg.2.1 (ih a' (k + 1) (by omega) hlt hg.2.2)
      · rename_i o hs
        exact .out hg.1 hg.2.1 hg.2.2
  exact fun a k => main _ a k rfl
theorem runL_all {γ : Type} {p : γ → Bool} {o : Ex × St} {fin : Unit → Ex × St} : ∀ {l : List γ}, runL (fun _ y => match p y with | true => .inl () | false => .inr o) fin () l = match l.all p with | true => fin () | false => o
  | [] => rfl
  | y :: l => by
    simp only [runL, List.all_cons]
    cases hp : p y
    · simp
    · simp only [Bool.true_and]; exact runL_all
theorem runL_fold {γ σ : Type} {f : σ → γ → σ} {fin : σ → Ex × St} : ∀ {l : List γ} {a : σ}, runL (fun a y => .inl (f a y)) fin a l = fin (l.foldl f a)
  | [], _ => rfl
  | y :: l, a => by simp only [runL, List.foldl_cons]; exact runL_fold
def ffI {γ : Type} (g : γ → Int) : List γ → Int
  | [] => 0
  | y :: l => if g y = 0 then ffI g l else g y
theorem runL_code {γ : Type} {g : γ → Int} {o : Int → Ex × St} {fin : Unit → Ex × St} : ∀ {l : List γ}, runL (fun _ y => if g y = 0 then .inl () else .inr (o (g y))) fin () l = if ffI g l = 0 then fin () else o (ffI g l)
  | [] => rfl
  | y :: l => by
    simp only [runL, ffI]
    by_cases h : g y = 0
    · simp only [h, if_true]; exact runL_code
    · simp only [h, if_false]
theorem loop_all {γ : Type} {n e r : List Nat × List Nat} {xs : List γ} {st : Nat → St} {p : γ → Bool} {o fin : Ex × St}
    (hfin : ((exec E x (st xs.length)).bind (lessX n e r)).val = some fin) (hf1 : fin.1 ≠ .normal ∧ closedB fin.2 = true) (ho : o.1 ≠ .normal ∧ closedB o.2 = true) (hs : ∀ k, closedB (st k) = true)
    (hgo : ∀ k y, xs[k]? = some y → ((exec E x (st k)).bind (lessX n e r)).val = match p y with | true => some (.normal, st (k + 1)) | false => some o) :
    ∀ k, k ≤ xs.length → ∀ ex s', (T.ifB ((xs.drop k).all p) (.ret fin) (.ret o)).val = some (ex, s') → LoopOK E x (st k) ex s' := by
  intro k hk ex s' h
  have := walk_list (E := E) (x := x) (xs := xs) (n := n) (e := e) (r := r) (st := fun (_ : Unit) k => st k) (step := fun _ y => match p y with | true => .inl () | false => .inr o) (fin := fun _ => fin) (I := fun _ _ => True)
    (fun _ _ => hfin) (fun _ _ => hf1) (fun _ k y hy _ => by
      have := hgo k y hy
      cases hp : p y
      · simp only [hp] at this ⊢; exact ⟨this, ho⟩
      · simp only [hp] at this ⊢; exact ⟨this, hs _, trivial⟩) () k hk trivial
  rw [runL_all] at this
  cases hb : (xs.drop k).all p <;> simp only [hb, T.val, Option.some.injEq] at h this <;> subst h <;> exact this
theorem loop_code {γ : Type} {n e r : List Nat × List Nat} {xs : List γ} {st : Nat → St} {g : γ → Int} {o : Int → Ex × St} {fin : Ex × St}
    (hfin : ((exec E x (st xs.length)).bind (lessX n e r)).val = some fin) (hf1 : fin.1 ≠ .normal ∧ closedB fin.2 = true) (ho : ∀ c, (o c).1 ≠ .normal ∧ closedB (o c).2 = true) (hs : ∀ k, closedB (st k) = true)
    (hgo : ∀ k y, xs[k]? = some y → ((exec E x (st k)).bind (lessX n e r)).val = if g y = 0 then some (.normal, st (k + 1)) else some (o (g y))) :
    ∀ k, k ≤ xs.length → ∀ ex s', (T.ifB (decide (ffI g (xs.drop k) = 0)) (.ret fin) (.ret (o (ffI g (xs.drop k))))).val = some (ex, s') → LoopOK E x (st k) ex s' := by
  intro k hk ex s' h
  have := walk_list (E := E) (x := x) (xs := xs) (n := n) (e := e) (r := r) (st := fun (_ : Unit) k => st k) (step := fun _ y => if g y = 0 then .inl () else .inr (o (g y))) (fin := fun _ => fin) (I := fun _ _ => True)
    (fun _ _ => hfin) (fun _ _ => hf1) (fun _ k y hy _ => by
      have := hgo k y hy
      by_cases hp : g y = 0
      · simp only [hp, if_true] at this ⊢; exact ⟨this, hs _, trivial⟩
      · simp only [hp, if_false] at this ⊢; exact ⟨this, ho _⟩) () k hk trivial
  rw [runL_code] at this
  by_cases hb : ffI g (xs.drop k) = 0
  · simp only [hb, decide_true, T.val, Option.some.injEq, if_true] at h this; subst h; exact this
  · simp only [hb, decide_false, T.val, Option.some.injEq, if_false] at h this; rw [h] at this; exact this
theorem loop_gen {σ : Type} {n e r : List Nat × List Nat} {st : σ → St} {out : σ → T (Ex × St)} {I : σ → Prop} (μ : σ → Nat)
    (h : ∀ a, I a → (∃ o, ((exec E x (st a)).bind (lessX n e r)).val = some o ∧ (out a).val = some o ∧ o.1 ≠ .normal ∧ closedB o.2 = true) ∨
      (∃ a', ((exec E x (st a)).bind (lessX n e r)).val = some (.normal, st a') ∧ closedB (st a') = true ∧ I a' ∧ μ a' < μ a ∧ (out a').val = (out a).val)) :
    ∀ a, I a → ∀ ex s', (out a).val = some (ex, s') → LoopOK E x (st a) ex s' := by
  have main : ∀ m a, μ a ≤ m → I a → ∀ ex s', (out a).val = some (ex, s') → LoopOK E x (st a) ex s' := by
    intro m
    induction m with
    | zero =>
      intro a hm hI ex s' ho
      rcases h a hI with ⟨o, h1, h2, h3, h4⟩ | ⟨a', h1, h2, h3, h4, h5⟩
      · rw [ho] at h2; cases h2; exact .out h1 h3 h4
      · omega
    | succ m ih =>
      intro a hm hI ex s' ho
      rcases h a hI with ⟨o, h1, h2, h3, h4⟩ | ⟨a', h1, h2, h3, h4, h5⟩
      · rw [ho] at h2; cases h2; exact .out h1 h3 h4
      · exact .go h1 h2 (ih a' (by omega) h3 ex s' (h5.trans ho))
  exact fun a => main _ a (Nat.le_refl _)
theorem loop_fold {γ σ : Type} {n e r : List Nat × List Nat} {xs : List γ} {st : σ → Nat → St} {f : σ → γ → σ} {fin : σ → Ex × St} {I : σ → Nat → Prop}
    (hfin : ∀ a, I a xs.length → ((exec E x (st a xs.length)).bind (lessX n e r)).val = some (fin a)) (hf1 : ∀ a, (fin a).1 ≠ .normal ∧ closedB (fin a).2 = true) (hs : ∀ a k, closedB (st a k) = true)
    (hgo : ∀ a k y, xs[k]? = some y → I a k → ((exec E x (st a k)).bind (lessX n e r)).val = some (.normal, st (f a y) (k + 1)) ∧ I (f a y) (k + 1)) :
    ∀ a k, k ≤ xs.length → I a k → ∀ ex s', (T.ret (fin ((xs.drop k).foldl f a))).val = some (ex, s') → LoopOK E x (st a k) ex s' := by
  intro a k hk hI ex s' h
  have := walk_list (E := E) (x := x) (xs := xs) (n := n) (e := e) (r := r) (st := st) (step := fun a y => .inl (f a y)) (fin := fin) (I := I)
    hfin (fun a _ => hf1 a) (fun a k y hy hI => by
      have := hgo a k y hy hI
      exact ⟨this.1, hs _ _, this.2⟩) a k hk hI
  rw [runL_fold] at this
  rw [T.ret_some] at h
  rw [h] at this
  exact this
theorem no_loops {fn : Func} (h : Func.loops fn = []) : ∀ x ∈ Func.loops fn, ∀ s e s', (E.lp (lid x) s).val = some (e, s') → LoopOK E x s e s' := by
  rw [h]; intro x hx; cases hx
theorem one_loop {fn : Func} {x0 : Code} (h : Func.loops fn = [x0]) (h0 : ∀ s e s', (E.lp (lid x0) s).val = some (e, s') → LoopOK E x0 s e s') :
    ∀ x ∈ Func.loops fn, ∀ s e s', (E.lp (lid x) s).val = some (e, s') → LoopOK E x s e s' := by
  rw [h]; intro x hx
  rcases List.mem_cons.1 hx with rfl | hx
  · exact h0
  · cases hx
theorem two_loops {fn : Func} {x0 x1 : Code} (h : Func.loops fn = [x0, x1]) (h0 : ∀ s e s', (E.lp (lid x0) s).val = some (e, s') → LoopOK E x0 s e s') (h1 : ∀ s e s', (E.lp (lid x1) s).val = some (e, s') → LoopOK E x1 s e s') :
    ∀ x ∈ Func.loops fn, ∀ s e s', (E.lp (lid x) s).val = some (e, s') → LoopOK E x s e s' := by
  rw [h]; intro x hx
  rcases List.mem_cons.1 hx with rfl | hx
  · exact h0
  rcases List.mem_cons.1 hx with rfl | hx
  · exact h1
  · cases hx
end

theorem mkH_ok {α : Type} {P : Program} {E : Env} {f : FuncId} {mv : List Nat} {enc : α → List AV × Heap} {pre : α → Bool} {res : α → AV × Heap × List Nat} (fn : Func) (hf : P.funcs[f]? = some fn)
    (hn : ((fn.name == "runtime.NumGoroutine") || fn.body.isNone) = false) (ok : EnvOK P E) (hm : P.follows .mixedOrders = true)
    (hlp : ∀ x ∈ Func.loops fn, ∀ s e s', (E.lp (lid x) s).val = some (e, s') → LoopOK E x s e s')
    (h : ∀ a, pre a = true → (∀ x ∈ (enc a).1, OkA x) → (∀ k bl, mget (enc a).2 k = some bl → OkK bl) → (runH E mv fn (enc a).1 (enc a).2).val = some (res a)) : OrcHOK P E.glob (orcH f enc pre res) := by
  simp only [Bool.or_eq_false_iff] at hn
  exact orcH_ok ⟨fn, hf, hn.1, hn.2⟩ (fun a h1 h2 h3 => runH_sound ok hm hf hlp (mv := mv) (h a h1 h2 h3))

theorem mk_ok {α : Type} {P : Program} {E : Env} {f : FuncId} {flat keep : Bool} {enc : α → List AV} {pre : α → Bool} {res : α → AV × Heap} (fn : Func) (hf : P.funcs[f]? = some fn)
    (hn : ((fn.name == "runtime.NumGoroutine") || fn.body.isNone) = false) (ok : EnvOK P E) (hm : P.follows .mixedOrders = true)
    (hlp : ∀ x ∈ Func.loops fn, ∀ s e s', (E.lp (lid x) s).val = some (e, s') → LoopOK E x s e s') (hfl : flat = true → ∀ a, frsH (res a).2 = true ∧ frs2 (res a).1 = true)
    (h : ∀ a, pre a = true → (∀ x ∈ enc a, OkA x) → (runF E keep fn (enc a)).val = some (res a)) : OrcOK P E.glob (orc f flat enc pre res) := by
  simp only [Bool.or_eq_false_iff] at hn
  exact orc_ok ⟨fn, hf, hn.1, hn.2⟩ (fun a h1 h2 => runF_sound ok hm hf hlp (h a h1 h2)) hfl

end Go.Proofs.YtajmdlpanlbnjaaGreatDoor.M

namespace Go.Proofs.YtajmdlpanlbnjaaGreatDoor.M
open Go Go.RowKit

def tyL : List (Nat × TI) :=
  [(2, .mk false 1 [] [.v (.int .i64 0)] 0 0 0 [] (some .i64) 3 []),
   (3, .mk false 1 [] [.v (.int .i64 0)] 0 0 0 [] (some .i64) 3 []),
   (4, .mk false 1 [] [.v (.bool false)] 0 0 0 [] none 1 []),
   (5, .mk false 1 [] [.v (.int .u8 0)] 0 0 0 [] (some .u8) 3 []),
   (6, .mk false 1 [] [.v (.int .u8 0)] 0 0 0 [] (some .u8) 3 []),
   (7, .mk true 4 [(0, false, 1), (1, false, 1), (2, false, 1), (3, false, 1)] [.v (.int .i64 0), .v (.int .i64 0), .v (.bool false), .v (.int .u8 0)] 0 0 0 [] none 5 [0, 0, 2, 0]),
   (8, .mk true 4 [(0, false, 1), (1, false, 1), (2, false, 1), (3, false, 1)] [.v (.int .i64 0), .v (.int .i64 0), .v (.bool false), .v (.int .u8 0)] 0 0 0 [] none 5 [0, 0, 2, 0]),
   (9, .mk false 1 [] [.v (.string ⟨#[]⟩)] 0 0 0 [] none 2 []),
   (10, .mk false 1 [] [.v (.string ⟨#[]⟩)] 0 0 0 [] none 2 []),
   (11, .mk false 1 [] [.v (.string ⟨#[]⟩)] 0 0 0 [] none 2 []),
   (12, .mk false 1 [] [.v (.int .u64 0)] 0 0 0 [] (some .u64) 3 []),
   (13, .mk true 2 [(0, false, 1), (1, false, 1)] [.v (.string ⟨#[]⟩), .v (.int .u64 0)] 0 0 0 [] none 5 []),
   (14, .mk true 2 [(0, false, 1), (1, false, 1)] [.v (.string ⟨#[]⟩), .v (.int .u64 0)] 0 0 0 [] none 5 []),
   (15, .mk false 1 [] [.v (.pointer none)] 0 0 0 [] none 0 []),
   (16, .mk false 1 [] [.v (.pointer none)] 0 0 0 [] none 0 []),
   (17, .mk false 1 [] [.v (.pointer none)] 0 0 0 [] none 0 []),
   (18, .mk true 1 [(0, false, 1)] [.v (.pointer none)] 0 0 0 [] none 5 []),
   (19, .mk true 1 [(0, false, 1)] [.v (.pointer none)] 0 0 0 [] none 5 []),
   (20, .mk false 1 [] [.v .nilIface] 0 0 0 [] none 0 []),
   (21, .mk false 1 [] [.v (.int .i32 0)] 0 0 0 [] (some .i32) 3 []),
   (22, .mk false 1 [] [.e0] 50 7 88 [.v (.string ⟨#[]⟩), .v (.int .i64 0), .v (.bool false), .v (.int .i64 0), .v (.string ⟨#[]⟩), .v (.bool false), .e0] none 4 []),
   (23, .mk true 5 [(0, false, 1), (1, false, 1), (2, false, 1), (3, false, 1), (4, false, 1)] [.v (.int .i64 0), .v (.int .i64 0), .v (.int .i64 0), .e0, .v (.bool false)] 0 0 0 [] none 5 []),
   (24, .mk true 5 [(0, false, 1), (1, false, 1), (2, false, 1), (3, false, 1), (4, false, 1)] [.v (.int .i64 0), .v (.int .i64 0), .v (.int .i64 0), .e0, .v (.bool false)] 0 0 0 [] none 5 []),
   (25, .mk false 1 [] [.v (.int .i64 0)] 0 0 0 [] (some .i64) 3 []),
   (31, .mk false 1 [] [.e0] 3 1 8 [.v (.int .i64 0)] none 4 []),
   (37, .mk true 6 [(0, false, 1), (1, true, 5)] [.v (.int .i64 0), .v (.int .i64 0), .v (.int .i64 0), .v (.int .i64 0), .e0, .v (.bool false)] 0 0 0 [] none 5 []),
   (38, .mk true 6 [(0, false, 1), (1, true, 5)] [.v (.int .i64 0), .v (.int .i64 0), .v (.int .i64 0), .v (.int .i64 0), .e0, .v (.bool false)] 0 0 0 [] none 5 []),
   (46, .mk false 1 [] [.e0] 52 9 104 [.v (.int .i64 0), .v (.string ⟨#[]⟩), .v (.int .i64 0), .v (.bool false), .v (.int .i64 0), .v (.string ⟨#[]⟩), .v (.bool false), .e0, .v (.int .i64 0)] none 4 []),
   (48, .mk false 1 [] [.e0] 9 1 16 [.v (.string ⟨#[]⟩)] none 4 []),
   (49, .mk true 7 [(0, false, 1), (1, false, 1), (2, false, 1), (3, false, 1), (4, false, 1), (5, false, 1), (6, false, 1)] [.v (.string ⟨#[]⟩), .v (.int .i64 0), .v (.bool false), .v (.int .i64 0), .v (.string ⟨#[]⟩), .v (.bool false), .e0] 0 0 0 [] none 5 []),
   (50, .mk true 7 [(0, false, 1), (1, false, 1), (2, false, 1), (3, false, 1), (4, false, 1), (5, false, 1), (6, false, 1)] [.v (.string ⟨#[]⟩), .v (.int .i64 0), .v (.bool false), .v (.int .i64 0), .v (.string ⟨#[]⟩), .v (.bool false), .e0] 0 0 0 [] none 5 []),
   (51, .mk true 9 [(0, false, 1), (1, true, 7), (8, false, 1)] [.v (.int .i64 0), .v (.string ⟨#[]⟩), .v (.int .i64 0), .v (.bool false), .v (.int .i64 0), .v (.string ⟨#[]⟩), .v (.bool false), .e0, .v (.int .i64 0)] 0 0 0 [] none 5 []),
   (52, .mk true 9 [(0, false, 1), (1, true, 7), (8, false, 1)] [.v (.int .i64 0), .v (.string ⟨#[]⟩), .v (.int .i64 0), .v (.bool false), .v (.int .i64 0), .v (.string ⟨#[]⟩), .v (.bool false), .e0, .v (.int .i64 0)] 0 0 0 [] none 5 []),
   (71, .mk false 1 [] [.v (.pointer none)] 0 0 0 [] none 0 []),
   (72, .mk true 2 [(0, false, 1), (1, false, 1)] [.v (.string ⟨#[]⟩), .v (.int .i64 0)] 0 0 0 [] none 5 [1, 0]),
   (73, .mk true 2 [(0, false, 1), (1, false, 1)] [.v (.string ⟨#[]⟩), .v (.int .i64 0)] 0 0 0 [] none 5 [1, 0]),
   (78, .mk false 1 [] [.v (.pointer none)] 0 0 0 [] none 0 []),
   (79, .mk false 1 [] [.e0] 5 1 1 [.v (.int .u8 0)] none 4 []),
   (80, .mk true 2 [(0, false, 1), (1, false, 1)] [.v (.pointer none), .e0] 0 0 0 [] none 5 []),
   (81, .mk true 2 [(0, false, 1), (1, false, 1)] [.v (.pointer none), .e0] 0 0 0 [] none 5 []),
   (82, .mk false 1 [] [.v .nilIface] 0 0 0 [] none 0 []),
   (83, .mk false 1 [] [.v .nilIface] 0 0 0 [] none 0 []),
   (97, .mk false 1 [] [.e0] 4 1 1 [.v (.bool false)] none 4 []),
   (99, .mk false 1 [] [.e0] 25 1 8 [.v (.int .i64 0)] none 4 []),
   (104, .mk false 1 [] [.v (.pointer none)] 0 0 0 [] none 0 []),
   (105, .mk true 2 [(0, false, 1), (1, false, 1)] [.v (.string ⟨#[]⟩), .v (.pointer none)] 0 0 0 [] none 5 []),
   (106, .mk false 1 [] [.e0] 105 2 24 [.v (.string ⟨#[]⟩), .v (.pointer none)] none 4 []),
   (116, .mk false 1 [] [.v (.pointer none)] 0 0 0 [] none 0 []),
   (125, .mk false 1 [] [.v (.pointer none)] 0 0 0 [] none 0 []),
   (126, .mk false 1 [] [.v (.pointer none)] 0 0 0 [] none 0 []),
   (128, .mk false 1 [] [.v (.int .u64 0)] 0 0 0 [] (some .u64) 3 []),
   (135, .mk true 3 [(0, false, 1), (1, false, 1), (2, false, 1)] [.v (.bool false), .e0, .e0] 0 0 0 [] none 5 []),
   (136, .mk true 3 [(0, false, 1), (1, false, 1), (2, false, 1)] [.v (.bool false), .e0, .e0] 0 0 0 [] none 5 []),
   (139, .mk true 24 [] [.v (.int .u8 0), .v (.int .u8 0), .v (.int .u8 0), .v (.int .u8 0), .v (.int .u8 0), .v (.int .u8 0), .v (.int .u8 0), .v (.int .u8 0), .v (.int .u8 0), .v (.int .u8 0), .v (.int .u8 0), .v (.int .u8 0), .v (.int .u8 0), .v (.int .u8 0), .v (.int .u8 0), .v (.int .u8 0), .v (.int .u8 0), .v (.int .u8 0), .v (.int .u8 0), .v (.int .u8 0), .v (.int .u8 0), .v (.int .u8 0), .v (.int .u8 0), .v (.int .u8 0)] 0 0 0 [] none 0 []),
   (145, .mk false 1 [] [.v (.int .u64 0)] 0 0 0 [] (some .u64) 3 []),
   (154, .mk true 20 [] [.v (.int .u64 0), .v (.int .u64 0), .v (.int .u64 0), .v (.int .u64 0), .v (.int .u64 0), .v (.int .u64 0), .v (.int .u64 0), .v (.int .u64 0), .v (.int .u64 0), .v (.int .u64 0), .v (.int .u64 0), .v (.int .u64 0), .v (.int .u64 0), .v (.int .u64 0), .v (.int .u64 0), .v (.int .u64 0), .v (.int .u64 0), .v (.int .u64 0), .v (.int .u64 0), .v (.int .u64 0)] 0 0 0 [] none 0 []),
   (155, .mk false 1 [] [.v (.int .u32 0)] 0 0 0 [] (some .u32) 3 []),
   (156, .mk true 65 [] [.v (.int .u8 0), .v (.int .u8 0), .v (.int .u8 0), .v (.int .u8 0), .v (.int .u8 0), .v (.int .u8 0), .v (.int .u8 0), .v (.int .u8 0), .v (.int .u8 0), .v (.int .u8 0), .v (.int .u8 0), .v (.int .u8 0), .v (.int .u8 0), .v (.int .u8 0), .v (.int .u8 0), .v (.int .u8 0), .v (.int .u8 0), .v (.int .u8 0), .v (.int .u8 0), .v (.int .u8 0), .v (.int .u8 0), .v (.int .u8 0), .v (.int .u8 0), .v (.int .u8 0), .v (.int .u8 0), .v (.int .u8 0), .v (.int .u8 0), .v (.int .u8 0), .v (.int .u8 0), .v (.int .u8 0), .v (.int .u8 0), .v (.int .u8 0), .v (.int .u8 0), .v (.int .u8 0), .v (.int .u8 0), .v (.int .u8 0), .v (.int .u8 0), .v (.int .u8 0), .v (.int .u8 0), .v (.int .u8 0), .v (.int .u8 0), .v (.int .u8 0), .v (.int .u8 0), .v (.int .u8 0), .v (.int .u8 0), .v (.int .u8 0), .v (.int .u8 0), .v (.int .u8 0), .v (.int .u8 0), .v (.int .u8 0), .v (.int .u8 0), .v (.int .u8 0), .v (.int .u8 0), .v (.int .u8 0), .v (.int .u8 0), .v (.int .u8 0), .v (.int .u8 0), .v (.int .u8 0), .v (.int .u8 0), .v (.int .u8 0), .v (.int .u8 0), .v (.int .u8 0), .v (.int .u8 0), .v (.int .u8 0), .v (.int .u8 0)] 0 0 0 [] none 0 []),
   (174, .mk true 32 [] [.v (.int .u8 0), .v (.int .u8 0), .v (.int .u8 0), .v (.int .u8 0), .v (.int .u8 0), .v (.int .u8 0), .v (.int .u8 0), .v (.int .u8 0), .v (.int .u8 0), .v (.int .u8 0), .v (.int .u8 0), .v (.int .u8 0), .v (.int .u8 0), .v (.int .u8 0), .v (.int .u8 0), .v (.int .u8 0), .v (.int .u8 0), .v (.int .u8 0), .v (.int .u8 0), .v (.int .u8 0), .v (.int .u8 0), .v (.int .u8 0), .v (.int .u8 0), .v (.int .u8 0), .v (.int .u8 0), .v (.int .u8 0), .v (.int .u8 0), .v (.int .u8 0), .v (.int .u8 0), .v (.int .u8 0), .v (.int .u8 0), .v (.int .u8 0)] 0 0 0 [] none 0 []),
   (175, .mk true 64 [] [.v (.int .u8 0), .v (.int .u8 0), .v (.int .u8 0), .v (.int .u8 0), .v (.int .u8 0), .v (.int .u8 0), .v (.int .u8 0), .v (.int .u8 0), .v (.int .u8 0), .v (.int .u8 0), .v (.int .u8 0), .v (.int .u8 0), .v (.int .u8 0), .v (.int .u8 0), .v (.int .u8 0), .v (.int .u8 0), .v (.int .u8 0), .v (.int .u8 0), .v (.int .u8 0), .v (.int .u8 0), .v (.int .u8 0), .v (.int .u8 0), .v (.int .u8 0), .v (.int .u8 0), .v (.int .u8 0), .v (.int .u8 0), .v (.int .u8 0), .v (.int .u8 0), .v (.int .u8 0), .v (.int .u8 0), .v (.int .u8 0), .v (.int .u8 0), .v (.int .u8 0), .v (.int .u8 0), .v (.int .u8 0), .v (.int .u8 0), .v (.int .u8 0), .v (.int .u8 0), .v (.int .u8 0), .v (.int .u8 0), .v (.int .u8 0), .v (.int .u8 0), .v (.int .u8 0), .v (.int .u8 0), .v (.int .u8 0), .v (.int .u8 0), .v (.int .u8 0), .v (.int .u8 0), .v (.int .u8 0), .v (.int .u8 0), .v (.int .u8 0), .v (.int .u8 0), .v (.int .u8 0), .v (.int .u8 0), .v (.int .u8 0), .v (.int .u8 0), .v (.int .u8 0), .v (.int .u8 0), .v (.int .u8 0), .v (.int .u8 0), .v (.int .u8 0), .v (.int .u8 0), .v (.int .u8 0), .v (.int .u8 0)] 0 0 0 [] none 0 []),
   (177, .mk false 1 [] [.v (.int .i64 0)] 0 0 0 [] (some .i64) 3 []),
   (180, .mk false 1 [] [.v (.pointer none)] 0 0 0 [] none 0 []),
   (186, .mk true 3 [(0, false, 1), (1, false, 1), (2, false, 1)] [.v (.string ⟨#[]⟩), .v (.string ⟨#[]⟩), .v .nilIface] 0 0 0 [] none 5 []),
   (187, .mk true 3 [(0, false, 1), (1, false, 1), (2, false, 1)] [.v (.string ⟨#[]⟩), .v (.string ⟨#[]⟩), .v .nilIface] 0 0 0 [] none 5 []),
   (190, .mk false 1 [] [.v (.pointer none)] 0 0 0 [] none 0 []),
   (191, .mk true 1 [(0, false, 1)] [.v (.string ⟨#[]⟩)] 0 0 0 [] none 5 [1]),
   (192, .mk true 1 [(0, false, 1)] [.v (.string ⟨#[]⟩)] 0 0 0 [] none 5 [1]),
   (193, .mk true 4 [(0, false, 1), (1, false, 1), (2, false, 1), (3, false, 1)] [.v (.pointer none), .v (.pointer none), .v (.pointer none), .v (.string ⟨#[]⟩)] 0 0 0 [] none 5 []),
   (194, .mk true 4 [(0, false, 1), (1, false, 1), (2, false, 1), (3, false, 1)] [.v (.pointer none), .v (.pointer none), .v (.pointer none), .v (.string ⟨#[]⟩)] 0 0 0 [] none 5 []),
   (195, .mk true 0 [] [] 0 0 0 [] none 0 []),
   (198, .mk false 1 [] [.v (.int .u8 0)] 0 0 0 [] (some .u8) 3 []),
   (199, .mk false 1 [] [.v (.int .u8 0)] 0 0 0 [] (some .u8) 3 []),
   (201, .mk false 1 [] [.v (.int .i32 0)] 0 0 0 [] (some .i32) 3 []),
   (202, .mk false 1 [] [.v (.int .i32 0)] 0 0 0 [] (some .i32) 3 []),
   (203, .mk true 11 [(0, false, 1), (1, false, 1), (2, false, 1), (3, false, 1), (4, false, 1), (5, false, 1), (6, false, 1), (7, false, 1), (8, false, 1), (9, false, 1), (10, false, 1)] [.v (.int .u64 0), .v (.int .u64 0), .v (.int .u32 0), .v (.int .u8 0), .v (.int .u8 0), .v (.int .u8 0), .v (.int .u8 0), .v .nilFunc, .v (.pointer none), .v (.int .i32 0), .v (.int .i32 0)] 0 0 0 [] none 5 []),
   (204, .mk true 11 [(0, false, 1), (1, false, 1), (2, false, 1), (3, false, 1), (4, false, 1), (5, false, 1), (6, false, 1), (7, false, 1), (8, false, 1), (9, false, 1), (10, false, 1)] [.v (.int .u64 0), .v (.int .u64 0), .v (.int .u32 0), .v (.int .u8 0), .v (.int .u8 0), .v (.int .u8 0), .v (.int .u8 0), .v .nilFunc, .v (.pointer none), .v (.int .i32 0), .v (.int .i32 0)] 0 0 0 [] none 5 [])]

theorem tyL_ok : tyL.map (fun p => tyOf Tryz.prog p.1) = tyL.map (fun p => some p.2) := by kernel_rfl

def ty (t : TypeId) : Option TI := mget tyL t

theorem ty_ok : ∀ t ti, ty t = some ti → tyOf Tryz.prog t = some ti := tyTab_ok tyL_ok

end Go.Proofs.YtajmdlpanlbnjaaGreatDoor.M

namespace Go.Proofs.YtajmdlpanlbnjaaGreatDoor
open Go Go.RowKit
set_option linter.unusedVariables false
set_option linter.unusedSimpArgs false
set_option maxHeartbeats 1000000

structure Ent where
  uri : ByteArray
  milli : Int
  brk : Bool
  date : Int
  key : ByteArray
  gap : Bool
  extra : List ByteArray

structure Lst where
  target : Int
  first : Int
  breaks : Int
  entries : List Ent
  ended : Bool

structure Itm where
  number : Int
  entry : Ent

structure Cli where
  begun : Bool
  next : Int
  last : Lst
  queue : List Itm
  lost : Int

structure Trn where
  kind : Int
  entry : Ent
  keep : Int

instance : Inhabited Ent := ⟨⟨⟨#[]⟩, 0, false, 0, ⟨#[]⟩, false, []⟩⟩

instance : Inhabited Lst := ⟨⟨0, 0, 0, [], false⟩⟩

instance : Inhabited Itm := ⟨⟨0, default⟩⟩

instance : Inhabited Trn := ⟨⟨0, default, 0⟩⟩

namespace M

abbrev vI (n : Int) : AV := .v (.int .i64 n)

abbrev vU (n : Int) : AV := .v (.int .u8 n)

abbrev vB (b : Bool) : AV := .v (.bool b)

abbrev vS (s : ByteArray) : AV := .v (.string s)

noncomputable def noG : Nat → Option GR := fun g => match Nat.beq g 3 with
  | true => some ⟨[], fun cs => ∃ m, cs[0]? = some (Value.int .i64 m)⟩
  | false => match Nat.beq g 2 with
    | true => some ⟨[], fun cs => cs = (Lib.pow10Tab.map fun z => Value.int .u64 z).toArray⟩
    | false => none

theorem wrap_id {n : Int} (h1 : -9223372036854775808 ≤ n) (h2 : n ≤ 9223372036854775807) : IntKind.i64.wrap n = n := by
  simp only [IntKind.wrap, IntKind.signed, IntKind.bits]
  simp
  omega

theorem ble_t {a b : Nat} (h : a ≤ b) : Nat.ble a b = true := by rw [Nat.ble_eq]; exact h

theorem mixed : Tryz.prog.follows .mixedOrders = true := by kernel_rfl

theorem getD_at {α : Type} {xs : List α} {k : Nat} {y d : α} (h : xs[k]? = some y) : xs.getD k d = y := by simp [List.getD, h]

theorem lt_at {α : Type} {xs : List α} {k : Nat} {y : α} (h : xs[k]? = some y) : k < xs.length := (List.getElem?_eq_some_iff.1 h).1

theorem next_at {k n : Nat} (h : k < n) (hn : n ≤ 9223372036854775807) : IntKind.i64.wrap ((k : Int) + 1) = ((k + 1 : Nat) : Int) := by
  rw [wrap_id (by omega) (by omega)]; rfl

theorem tdiv_nn {a b : Int} (h : 0 ≤ a) : a.tdiv b = a / b := Int.tdiv_eq_ediv_of_nonneg h

theorem cast_lt {k n : Nat} (h : k < n) : decide ((k : Int) < (n : Int)) = true := decide_eq_true (by omega)

def eStr (s : ByteArray) : Row := [vS s]

def eI (n : Int) : Row := [vI n]

def eB (b : Bool) : Row := [vB b]

def eEnt (e : Ent) : Row := [vS e.uri, vI e.milli, vB e.brk, vI e.date, vS e.key, vB e.gap, .sl (e.extra.map eStr)]

def eLst (l : Lst) : Row := [vI l.target, vI l.first, vI l.breaks, .sl (l.entries.map eEnt), vB l.ended]

def eItm (x : Itm) : Row := [vI x.number, vS x.entry.uri, vI x.entry.milli, vB x.entry.brk, vI x.entry.date, vS x.entry.key, vB x.entry.gap, .sl (x.entry.extra.map eStr)]

def eCli (c : Cli) : Row := [vB c.begun, vI c.next, vI c.last.target, vI c.last.first, vI c.last.breaks, .sl (c.last.entries.map eEnt), vB c.last.ended, .sl (c.queue.map eItm), vI c.lost]

def eTrn (x : Trn) : Row := [vI x.kind, vS x.entry.uri, vI x.entry.milli, vB x.entry.brk, vI x.entry.date, vS x.entry.key, vB x.entry.gap, .sl (x.entry.extra.map eStr), vI x.keep]

theorem eStr_inj (a b : ByteArray) (h : eStr a = eStr b) : a = b := by
  simp only [eStr] at h
  grind

theorem eI_inj (a b : Int) (h : eI a = eI b) : a = b := by
  simp only [eI] at h
  grind

theorem eB_inj (a b : Bool) (h : eB a = eB b) : a = b := by
  simp only [eB] at h
  grind

theorem bools_inj {a b : List Bool} : a.map eB = b.map eB ↔ a = b := List.map_inj_right eB_inj

theorem strs_inj {a b : List ByteArray} : a.map eStr = b.map eStr ↔ a = b := List.map_inj_right eStr_inj

theorem ints_inj {a b : List Int} : a.map eI = b.map eI ↔ a = b := List.map_inj_right eI_inj

theorem eEnt_inj (a b : Ent) (h : eEnt a = eEnt b) : a = b := by
  simp only [eEnt] at h
  simp [strs_inj] at h
  cases a
  cases b
  simp_all

theorem ents_inj {a b : List Ent} : a.map eEnt = b.map eEnt ↔ a = b := List.map_inj_right eEnt_inj

theorem eLst_inj (a b : Lst) (h : eLst a = eLst b) : a = b := by
  simp only [eLst] at h
  simp [ents_inj] at h
  cases a
  cases b
  simp_all

theorem eItm_inj (a b : Itm) (h : eItm a = eItm b) : a = b := by
  obtain ⟨n, e⟩ := a
  obtain ⟨n', e'⟩ := b
  have h1 : n = n' ∧ eEnt e = eEnt e' := by
    simp only [eItm, eEnt] at h ⊢
    simp only [List.cons.injEq] at h ⊢
    exact ⟨by have := h.1; simp at this; exact this, h.2⟩
  rw [h1.1, eEnt_inj _ _ h1.2]

theorem itms_inj {a b : List Itm} : a.map eItm = b.map eItm ↔ a = b := List.map_inj_right eItm_inj

theorem eTrn_inj (a b : Trn) (h : eTrn a = eTrn b) : a = b := by
  obtain ⟨n, e, k⟩ := a
  obtain ⟨n', e', k'⟩ := b
  obtain ⟨u, m, br, d, ke, g, x⟩ := e
  obtain ⟨u', m', br', d', ke', g', x'⟩ := e'
  simp only [eTrn] at h
  simp [strs_inj] at h
  simp_all

theorem trns_inj {a b : List Trn} : a.map eTrn = b.map eTrn ↔ a = b := List.map_inj_right eTrn_inj

theorem eEnt_iff {a b : Ent} : eEnt a = eEnt b ↔ a = b := ⟨eEnt_inj a b, fun h => h ▸ rfl⟩

theorem eLst_iff {a b : Lst} : eLst a = eLst b ↔ a = b := ⟨eLst_inj a b, fun h => h ▸ rfl⟩

theorem eTrn_iff {a b : Trn} : eTrn a = eTrn b ↔ a = b := ⟨eTrn_inj a b, fun h => h ▸ rfl⟩

theorem eCli_inj (a b : Cli) (h : eCli a = eCli b) : a = b := by
  obtain ⟨b1, n, l, q, lo⟩ := a
  obtain ⟨b1', n', l', q', lo'⟩ := b
  obtain ⟨t, f, br, es, en⟩ := l
  obtain ⟨t', f', br', es', en'⟩ := l'
  simp only [eCli] at h
  simp [ents_inj, itms_inj] at h
  simp_all

theorem eCli_iff {a b : Cli} : eCli a = eCli b ↔ a = b := ⟨eCli_inj a b, fun h => h ▸ rfl⟩

theorem unStrs (xs : List ByteArray) : unenc (List.map eStr) (xs.map eStr) = some xs := unenc_of (fun a b h => strs_inj.1 h) xs rfl

theorem unInts (xs : List Int) : unenc (List.map eI) (xs.map eI) = some xs := unenc_of (fun a b h => ints_inj.1 h) xs rfl

theorem unBools (xs : List Bool) : unenc (List.map eB) (xs.map eB) = some xs := unenc_of (fun a b h => bools_inj.1 h) xs rfl

theorem unEnts (xs : List Ent) : unenc (List.map eEnt) (xs.map eEnt) = some xs := unenc_of (fun a b h => ents_inj.1 h) xs rfl

theorem unItms (xs : List Itm) : unenc (List.map eItm) (xs.map eItm) = some xs := unenc_of (fun a b h => itms_inj.1 h) xs rfl

theorem etaLst (l : Lst) : Lst.mk l.target l.first l.breaks l.entries l.ended = l := rfl

theorem etaEnt (e : Ent) : Ent.mk e.uri e.milli e.brk e.date e.key e.gap e.extra = e := rfl

theorem unTrns (xs : List Trn) : unenc (List.map eTrn) (xs.map eTrn) = some xs := unenc_of (fun a b h => trns_inj.1 h) xs rfl

noncomputable def lks : List Lk := [⟨9, lkp eStr ⟨#[]⟩⟩, ⟨3, lkp eI 0⟩, ⟨25, lkp eI 0⟩, ⟨50, lkp eEnt default⟩, ⟨52, lkp eTrn default⟩, ⟨4, lkp eB false⟩]

theorem lks_ok : ∀ x ∈ lks, LkOK x := by
  simp only [lks, List.forall_mem_cons]
  exact ⟨lkp_ok, lkp_ok, lkp_ok, lkp_ok, lkp_ok, lkp_ok, by simp⟩

end M

structure Dlt where
  skipped : Int
  list : Lst

instance : Inhabited Dlt := ⟨⟨0, default⟩⟩

namespace M

def eDlt (d : Dlt) : Row := [vI d.skipped, vI d.list.target, vI d.list.first, vI d.list.breaks, .sl (d.list.entries.map eEnt), vB d.list.ended]

theorem eDlt_inj (a b : Dlt) (h : eDlt a = eDlt b) : a = b := by
  obtain ⟨n, t, f, br, es, en⟩ := a
  obtain ⟨n', t', f', br', es', en'⟩ := b
  simp only [eDlt] at h
  simp [ents_inj] at h
  simp_all

theorem eDlt_iff {a b : Dlt} : eDlt a = eDlt b ↔ a = b := ⟨eDlt_inj a b, fun h => h ▸ rfl⟩

end M

def F.bs (s : ByteArray) : List UInt8 := s.data.toList

theorem F.bs_get (s : ByteArray) (k : Nat) : s[k]? = (F.bs s)[k]? := by
  unfold F.bs
  by_cases h : k < s.size
  · have h' : k < s.data.toList.length := by simp; exact h
    rw [getElem?_pos s k h, List.getElem?_eq_getElem h']
    simp [ByteArray.getElem_eq_getElem_data]
  · have h' : ¬ k < s.data.toList.length := by simp; simpa using h
    rw [getElem?_neg s k h, List.getElem?_eq_none (by omega)]

theorem F.bs_len (s : ByteArray) : (F.bs s).length = s.size := by simp [F.bs]

def F.out (n l h : Int) : Bool := decide (n < l) || decide (h < n)

def F.visB (lo : Int) (b : UInt8) : Bool := !(decide ((b.toNat : Int) < lo) || decide ((126 : Int) < (b.toNat : Int)))

def F.visL (lo : Int) (l : List UInt8) : Bool := l.all (F.visB lo)

def F.vis (s : ByteArray) (lo : Int) : Bool := F.visL lo (F.bs s)

namespace M

noncomputable def en0 : Env := envH ty noG lks [] [] [] []

theorem en0_ok : EnvOK Tryz.prog en0 := by
  refine envH_ok lks_ok ty_ok ?_ ?_
  · simp
  · simp

def encOut1 (n l h : Int) : List AV := [vI n, vI l, vI h]

def encOut (a : Int × Int × Int) : List AV := encOut1 a.1 a.2.1 a.2.2

theorem encOut_inj (a a' : Int × Int × Int) (h : encOut a = encOut a') : a = a' := by
  simp only [encOut, encOut1] at h
  try simp  at h
  grind

theorem unOut (n l h : Int) : unenc encOut ([(vI n), (vI l), (vI h)]) = some (n, l, h) := unenc_of encOut_inj (n, l, h) rfl

def resOut1 (n l h : Int) : AV × Heap := (vB (F.out n l h), [])

def preOut1 (n l h : Int) : Bool := true

noncomputable def oOut : Orc := orc 28 true encOut (fun a => preOut1 a.1 a.2.1 a.2.2) fun a => resOut1 a.1 a.2.1 a.2.2

theorem evOut (n l h : Int) : (runF en0 false Tryz.f28 [vI n, vI l, vI h]).val =
  some ((vB (bif decide (n < l) then true else decide (h < n))), []) := by kernel_rfl

theorem okOut : OrcOK Tryz.prog noG oOut := by
  refine mk_ok Tryz.f28 (keep := false) (by kernel_rfl) (by kernel_rfl) en0_ok mixed (no_loops (by kernel_rfl)) (by first | exact fun _ _ => ⟨rfl, rfl⟩ | (intro h; cases h)) ?_
  rintro ⟨n, l, h⟩ _ _
  show (runF en0 false _ (encOut1 _ _ _)).val = some (resOut1 _ _ _)
  unfold encOut1 resOut1 F.out
  rw [evOut]
  cases decide (n < l) <;> cases decide (h < n) <;> rfl

def stVis (s : ByteArray) (lo : Int) (k : Nat) : St := ⟨[(8, vI k), (7, vI s.size), (1, vU lo), (0, vS s)], []⟩

def stVis1 (a : ByteArray × Int × Nat) : St := stVis a.1 a.2.1 a.2.2

theorem stVis_inj (a a' : ByteArray × Int × Nat) (h : stVis1 a = stVis1 a') : a = a' := by
  simp only [stVis1, stVis] at h
  try simp  at h
  grind

theorem unstVis0 (s : ByteArray) (lo : Int)  : unenc stVis1 (St.mk [(8, (vI (0 : Int))), (7, (vI (↑(ByteArray.size s) : Int))), (1, (vU lo)), (0, (vS s))] []) = some (s, lo, 0) := unenc_of stVis_inj (s, lo, 0) rfl

def outVis (s : ByteArray) (lo : Int) (k : Nat) : T (Ex × St) := .ifB (F.visL lo ((F.bs s).drop k)) (.ret (.exit 0, ⟨[], []⟩)) (.ret (.ret, ⟨[(4, vB false)], []⟩))

noncomputable def prlVis (s : ByteArray) (lo : Int) (k : Nat) : Bool := decide (s.size ≤ 9223372036854775807) && decide (k ≤ s.size)

noncomputable def lpVis : Nat × (St → T (Ex × St)) := (2, lpo [8, 7, 1, 0] [] stVis1 (fun a => prlVis a.1 a.2.1 a.2.2) fun a => outVis a.1 a.2.1 a.2.2)

noncomputable def enVis : Env := envH ty noG lks [] [] [] [lpVis]

theorem enVis_ok : EnvOK Tryz.prog enVis := by
  refine envH_ok lks_ok ty_ok ?_ ?_
  · simp
  · simp

def encVis1 (s : ByteArray) (lo : Int) : List AV := [vS s, vU lo]

def encVis (a : ByteArray × Int) : List AV := encVis1 a.1 a.2

theorem encVis_inj (a a' : ByteArray × Int) (h : encVis a = encVis a') : a = a' := by
  simp only [encVis, encVis1] at h
  try simp  at h
  grind

theorem unVis (s : ByteArray) (lo : Int) : unenc encVis ([(vS s), (vU lo)]) = some (s, lo) := unenc_of encVis_inj (s, lo) rfl

def resVis1 (s : ByteArray) (lo : Int) : AV × Heap := (vB (F.vis s lo), [])

def preVis1 (s : ByteArray) (lo : Int) : Bool := true

noncomputable def oVis : Orc := orc 60 true encVis (fun a => preVis1 a.1 a.2) fun a => resVis1 a.1 a.2

theorem evVisL (s : ByteArray) (lo : Int) (k : Nat) : ((exec enVis (loopN Tryz.f60 0) (stVis s lo k)).bind (lessX ([8, 7, 1, 0], []) ([], []) ([4], []))).val =
  bif decide ((↑k : Int) < (↑(ByteArray.size s) : Int)) then Option.bind s[k]? fun (z : UInt8) => bif !decide ((↑(UInt8.toNat z) : Int) < lo) then Option.bind s[k]? fun (z_1
  : UInt8) => bif bif decide ((↑(UInt8.toNat z) : Int) < lo) then true else decide ((126 : Int) < (↑(UInt8.toNat z_1) : Int)) then some (Ex.ret, St.mk [(4, (vB false))] [])
  else some (Ex.normal, St.mk [(8, (vI (IntKind.wrap IntKind.i64 ((↑k : Int) + (1 : Int))))), (7, (vI (↑(ByteArray.size s) : Int))), (1, (vU lo)), (0, (vS s))] []) else bif
  !decide ((↑(UInt8.toNat z) : Int) < lo) then none else some (Ex.ret, St.mk [(4, (vB false))] []) else some (Ex.exit (0 : Nat), St.mk [] []) := by kernel_rfl

theorem evVis (s : ByteArray) (lo : Int) : (runF enVis false Tryz.f60 [vS s, vU lo]).val =
  Option.bind (unenc stVis1 (St.mk [(8, (vI (0 : Int))), (7, (vI (↑(ByteArray.size s) : Int))), (1, (vU lo)), (0, (vS s))] [])) fun (z : ByteArray × Int × Nat) => bif decide
  (ByteArray.size z.fst ≤ (9223372036854775807 : Nat)) && decide (z.snd.snd ≤ ByteArray.size z.fst) && true then bif F.visL z.snd.fst (List.drop z.snd.snd (F.bs z.fst)) then
  some ((vB true), []) else some ((vB false), []) else none := by kernel_rfl

theorem lpVis_ok (s : ByteArray) (lo : Int) (hs : s.size ≤ 9223372036854775807) (k : Nat) (hk : k ≤ s.size) : ∀ e s', (outVis s lo k).val = some (e, s') → LoopOK enVis (loopN Tryz.f60 0) (stVis s lo k) e s' := by
  refine loop_all (xs := F.bs s) (st := stVis s lo) (n := ([8, 7, 1, 0], [])) (e := ([], [])) (r := ([4], [])) ?_ ⟨by simp, rfl⟩ ⟨by simp, rfl⟩ (fun _ => rfl) ?_ k (by rw [F.bs_len]; exact hk)
  · rw [evVisL, F.bs_len]; simp
  · intro k y hy
    have hk : k < s.size := by rw [← F.bs_len]; exact (List.getElem?_eq_some_iff.1 hy).1
    have hkz : ((k : Int) < (s.size : Int)) := by omega
    have hw : IntKind.i64.wrap ((k : Int) + 1) = ((k + 1 : Nat) : Int) := by rw [wrap_id (by omega) (by omega)]; rfl
    rw [evVisL, F.bs_get, hy]
    simp only [hkz, decide_true, Option.bind_some, hw, F.visB]
    cases h1 : decide ((y.toNat : Int) < lo) <;> cases h2 : decide ((126 : Int) < (y.toNat : Int)) <;> simp_all [stVis]

theorem okVis : OrcOK Tryz.prog noG oVis := by
  refine mk_ok Tryz.f60 (keep := false) (by kernel_rfl) (by kernel_rfl) enVis_ok mixed (one_loop (x0 := loopN Tryz.f60 0) (by kernel_rfl) (lpo_ok ?_)) (by first | exact fun _ _ => ⟨rfl, rfl⟩ | (intro h; cases h)) ?_
  · rintro ⟨s, lo, k⟩ hp
    simp only [prlVis, Bool.and_eq_true, decide_eq_true_eq] at hp
    exact lpVis_ok s lo hp.1 k hp.2
  · rintro ⟨s, lo⟩ _ hok
    have hs := okA_str (hok _ (List.mem_cons_self ..))
    show (runF enVis false _ (encVis1 _ _)).val = some (resVis1 _ _)
    unfold encVis1 resVis1
    rw [evVis, unstVis0]
    simp [hs, F.vis]
    cases F.visL lo (F.bs s) <;> rfl

end M

def F.letter (n : Int) : Bool := decide (97 ≤ n) && decide (n ≤ 122)

def F.digit (n : Int) : Bool := decide (48 ≤ n) && decide (n ≤ 57)

def F.seq (a b : ByteArray) : Bool := a.toList == b.toList

def F.hasPrefix (s p : ByteArray) : Bool := decide (p.size ≤ s.size) && F.seq (s.extract 0 p.size) p

def F.within (n l h : Int) : Bool := decide (l ≤ n) && decide (n ≤ h)

namespace M

def encLetter1 (n : Int) : List AV := [vU n]

def encLetter (a : Int) : List AV := encLetter1 a

theorem encLetter_inj (a a' : Int) (h : encLetter a = encLetter a') : a = a' := by
  simp only [encLetter, encLetter1] at h
  try simp  at h
  grind

theorem unLetter (n : Int) : unenc encLetter ([(vU n)]) = some (n) := unenc_of encLetter_inj (n) rfl

def resLetter1 (n : Int) : AV × Heap := (vB (F.letter n), [])

def preLetter1 (n : Int) : Bool := true

noncomputable def oLetter : Orc := orc 85 true encLetter (fun a => preLetter1 a) fun a => resLetter1 a

theorem evLetter (n : Int) : (runF en0 false Tryz.f85 [vU n]).val =
  some ((vB (bif decide ((97 : Int) ≤ n) then decide (n ≤ (122 : Int)) else false)), []) := by kernel_rfl

theorem okLetter : OrcOK Tryz.prog noG oLetter := by
  refine mk_ok Tryz.f85 (keep := false) (by kernel_rfl) (by kernel_rfl) en0_ok mixed (no_loops (by kernel_rfl)) (by first | exact fun _ _ => ⟨rfl, rfl⟩ | (intro h; cases h)) ?_
  rintro n _ hok
  show (runF en0 false _ (encLetter1 _)).val = some (resLetter1 _)
  unfold encLetter1 resLetter1
  rw [evLetter]
  unfold F.letter
  cases decide ((97 : Int) ≤ n) <;> rfl

def encDigit1 (n : Int) : List AV := [vU n]

def encDigit (a : Int) : List AV := encDigit1 a

theorem encDigit_inj (a a' : Int) (h : encDigit a = encDigit a') : a = a' := by
  simp only [encDigit, encDigit1] at h
  try simp  at h
  grind

theorem unDigit (n : Int) : unenc encDigit ([(vU n)]) = some (n) := unenc_of encDigit_inj (n) rfl

def resDigit1 (n : Int) : AV × Heap := (vB (F.digit n), [])

def preDigit1 (n : Int) : Bool := true

noncomputable def oDigit : Orc := orc 86 true encDigit (fun a => preDigit1 a) fun a => resDigit1 a

theorem evDigit (n : Int) : (runF en0 false Tryz.f86 [vU n]).val =
  some ((vB (bif decide ((48 : Int) ≤ n) then decide (n ≤ (57 : Int)) else false)), []) := by kernel_rfl

theorem okDigit : OrcOK Tryz.prog noG oDigit := by
  refine mk_ok Tryz.f86 (keep := false) (by kernel_rfl) (by kernel_rfl) en0_ok mixed (no_loops (by kernel_rfl)) (by first | exact fun _ _ => ⟨rfl, rfl⟩ | (intro h; cases h)) ?_
  rintro n _ hok
  show (runF en0 false _ (encDigit1 _)).val = some (resDigit1 _)
  unfold encDigit1 resDigit1
  rw [evDigit]
  unfold F.digit
  cases decide ((48 : Int) ≤ n) <;> rfl

def encWithin1 (n l h : Int) : List AV := [vI n, vI l, vI h]

def encWithin (a : Int × Int × Int) : List AV := encWithin1 a.1 a.2.1 a.2.2

theorem encWithin_inj (a a' : Int × Int × Int) (h : encWithin a = encWithin a') : a = a' := by
  simp only [encWithin, encWithin1] at h
  try simp  at h
  grind

theorem unWithin (n l h : Int) : unenc encWithin ([(vI n), (vI l), (vI h)]) = some (n, l, h) := unenc_of encWithin_inj (n, l, h) rfl

def resWithin1 (n l h : Int) : AV × Heap := (vB (F.within n l h), [])

def preWithin1 (n l h : Int) : Bool := true

noncomputable def oWithin : Orc := orc 30 true encWithin (fun a => preWithin1 a.1 a.2.1 a.2.2) fun a => resWithin1 a.1 a.2.1 a.2.2

theorem evWithin (n l h : Int) : (runF en0 false Tryz.f30 [vI n, vI l, vI h]).val =
  some ((vB (bif decide (l ≤ n) then decide (n ≤ h) else false)), []) := by kernel_rfl

theorem okWithin : OrcOK Tryz.prog noG oWithin := by
  refine mk_ok Tryz.f30 (keep := false) (by kernel_rfl) (by kernel_rfl) en0_ok mixed (no_loops (by kernel_rfl)) (by first | exact fun _ _ => ⟨rfl, rfl⟩ | (intro h; cases h)) ?_
  rintro ⟨n, l, h⟩ _ hok
  show (runF en0 false _ (encWithin1 _ _ _)).val = some (resWithin1 _ _ _)
  unfold encWithin1 resWithin1
  rw [evWithin]
  unfold F.within
  cases decide (l ≤ n) <;> rfl

def encHasPre01 (s p : ByteArray) : List AV := [vS s, vS p]

def encHasPre0 (a : ByteArray × ByteArray) : List AV := encHasPre01 a.1 a.2

theorem encHasPre0_inj (a a' : ByteArray × ByteArray) (h : encHasPre0 a = encHasPre0 a') : a = a' := by
  simp only [encHasPre0, encHasPre01] at h
  try simp  at h
  grind

theorem unHasPre0 (s p : ByteArray) : unenc encHasPre0 ([(vS s), (vS p)]) = some (s, p) := unenc_of encHasPre0_inj (s, p) rfl

def resHasPre01 (s p : ByteArray) : AV × Heap := (vB (F.hasPrefix s p), [])

def preHasPre01 (s p : ByteArray) : Bool := true

noncomputable def oHasPre0 : Orc := orc 87 true encHasPre0 (fun a => preHasPre01 a.1 a.2) fun a => resHasPre01 a.1 a.2

theorem evHasPre0 (s p : ByteArray) : (runF en0 false Tryz.f87 [vS s, vS p]).val =
  bif decide ((↑(ByteArray.size p) : Int) ≤ (↑(ByteArray.size s) : Int)) then bif Nat.ble (0 : Nat) (ByteArray.size p) && Nat.ble (ByteArray.size p) (ByteArray.size s) then
  some ((vB (bif decide ((↑(ByteArray.size p) : Int) ≤ (↑(ByteArray.size s) : Int)) then ByteArray.toList (ByteArray.extract s (0 : Nat) (ByteArray.size p)) ==
  ByteArray.toList p else false)), []) else none else bif decide ((↑(ByteArray.size p) : Int) ≤ (↑(ByteArray.size s) : Int)) then none else some ((vB false), []) := by kernel_rfl

theorem okHasPre0 : OrcOK Tryz.prog noG oHasPre0 := by
  refine mk_ok Tryz.f87 (keep := false) (by kernel_rfl) (by kernel_rfl) en0_ok mixed (no_loops (by kernel_rfl)) (by first | exact fun _ _ => ⟨rfl, rfl⟩ | (intro h; cases h)) ?_
  rintro ⟨s, p⟩ _ hok
  show (runF en0 false _ (encHasPre01 _ _)).val = some (resHasPre01 _ _)
  unfold encHasPre01 resHasPre01
  rw [evHasPre0]
  unfold F.hasPrefix F.seq
  by_cases h : p.size ≤ s.size
  · have h' : (p.size : Int) ≤ s.size := by omega
    have hb : Nat.ble p.size s.size = true := ble_t h
    have hb0 : Nat.ble 0 p.size = true := ble_t (Nat.zero_le _)
    simp only [h, h', hb, hb0, decide_true, Bool.true_and, cond_true]
  · have h' : ¬ (p.size : Int) ≤ s.size := by omega
    simp [h, h']

noncomputable def enHasPre : Env := envH ty noG lks [oHasPre0] [] [] []

theorem enHasPre_ok : EnvOK Tryz.prog enHasPre := by
  refine envH_ok lks_ok ty_ok ?_ ?_
  · simp only [List.forall_mem_cons]
    exact ⟨okHasPre0, by simp⟩
  · simp

def encHasPre1 (s p : ByteArray) : List AV := [vS s, vS p]

def encHasPre (a : ByteArray × ByteArray) : List AV := encHasPre1 a.1 a.2

theorem encHasPre_inj (a a' : ByteArray × ByteArray) (h : encHasPre a = encHasPre a') : a = a' := by
  simp only [encHasPre, encHasPre1] at h
  try simp  at h
  grind

theorem unHasPre (s p : ByteArray) : unenc encHasPre ([(vS s), (vS p)]) = some (s, p) := unenc_of encHasPre_inj (s, p) rfl

def resHasPre1 (s p : ByteArray) : AV × Heap := (vB (F.hasPrefix s p), [])

def preHasPre1 (s p : ByteArray) : Bool := true

noncomputable def oHasPre : Orc := orc 59 true encHasPre (fun a => preHasPre1 a.1 a.2) fun a => resHasPre1 a.1 a.2

theorem evHasPre (s p : ByteArray) : (runF enHasPre false Tryz.f59 [vS s, vS p]).val =
  Option.bind (unenc encHasPre0 [(vS s), (vS p)]) fun (z : ByteArray × ByteArray) => some ((vB (F.hasPrefix z.fst z.snd)), []) := by kernel_rfl

theorem okHasPre : OrcOK Tryz.prog noG oHasPre := by
  refine mk_ok Tryz.f59 (keep := false) (by kernel_rfl) (by kernel_rfl) enHasPre_ok mixed (no_loops (by kernel_rfl)) (by first | exact fun _ _ => ⟨rfl, rfl⟩ | (intro h; cases h)) ?_
  rintro ⟨s, p⟩ _ hok
  show (runF enHasPre false _ (encHasPre1 _ _)).val = some (resHasPre1 _ _)
  unfold encHasPre1 resHasPre1
  rw [evHasPre, unHasPre0]
  simp [preHasPre01]

def stPrn (s : ByteArray) (lo : Int) (k : Nat) : St := ⟨[(5, vI k), (1, vU lo), (0, vS s)], []⟩

def stPrn1 (a : ByteArray × Int × Nat) : St := stPrn a.1 a.2.1 a.2.2

theorem stPrn_inj (a a' : ByteArray × Int × Nat) (h : stPrn1 a = stPrn1 a') : a = a' := by
  simp only [stPrn1, stPrn] at h
  try simp  at h
  grind

theorem unstPrn0 (s : ByteArray) (lo : Int)  : unenc stPrn1 (St.mk [(5, (vI (0 : Int))), (1, (vU lo)), (0, (vS s))] []) = some (s, lo, 0) := unenc_of stPrn_inj (s, lo, 0) rfl

def outPrn (s : ByteArray) (lo : Int) (k : Nat) : T (Ex × St) := .ifB (((F.bs s).drop k).all (F.visB lo)) (.ret (.exit 0, ⟨[], []⟩)) (.ret (.ret, ⟨[(4, vB false)], []⟩))

noncomputable def prlPrn (s : ByteArray) (lo : Int) (k : Nat) : Bool := decide (s.size ≤ 9223372036854775807) && decide (k ≤ s.size)

noncomputable def lpPrn : Nat × (St → T (Ex × St)) := (2, lpo [5, 1, 0] [] stPrn1 (fun a => prlPrn a.1 a.2.1 a.2.2) fun a => outPrn a.1 a.2.1 a.2.2)

noncomputable def enPrn : Env := envH ty noG lks [] [] [] [lpPrn]

theorem enPrn_ok : EnvOK Tryz.prog enPrn := by
  refine envH_ok lks_ok ty_ok ?_ ?_
  · simp
  · simp

theorem evPrnL (s : ByteArray) (lo : Int) (k : Nat) : ((exec enPrn (loopN Tryz.f63 0) (stPrn s lo k)).bind (lessX ([5, 1, 0], []) ([], []) ([4], []))).val =
  bif decide ((↑k : Int) < (↑(ByteArray.size s) : Int)) then Option.bind s[k]? fun (z : UInt8) => bif !decide ((↑(UInt8.toNat z) : Int) < lo) then Option.bind s[k]? fun (z_1
  : UInt8) => bif bif decide ((↑(UInt8.toNat z) : Int) < lo) then true else decide ((126 : Int) < (↑(UInt8.toNat z_1) : Int)) then some (Ex.ret, St.mk [(4, (vB false))] [])
  else some (Ex.normal, St.mk [(5, (vI (IntKind.wrap IntKind.i64 ((↑k : Int) + (1 : Int))))), (1, (vU lo)), (0, (vS s))] []) else bif !decide ((↑(UInt8.toNat z) : Int) < lo)
  then none else some (Ex.ret, St.mk [(4, (vB false))] []) else some (Ex.exit (0 : Nat), St.mk [] []) := by kernel_rfl

theorem evPrn (s : ByteArray) (lo : Int) : (runF enPrn false Tryz.f63 [vS s, vU lo]).val =
  Option.bind (unenc stPrn1 (St.mk [(5, (vI (0 : Int))), (1, (vU lo)), (0, (vS s))] [])) fun (z : ByteArray × Int × Nat) => bif decide (ByteArray.size z.fst ≤
  (9223372036854775807 : Nat)) && decide (z.snd.snd ≤ ByteArray.size z.fst) && true then bif List.all (List.drop z.snd.snd (F.bs z.fst)) (F.visB z.snd.fst) then some ((vB
  true), []) else some ((vB false), []) else none := by kernel_rfl

theorem lpPrn_ok (s : ByteArray) (lo : Int) (hs : s.size ≤ 9223372036854775807) (k : Nat) (hk : k ≤ s.size) : ∀ e s', (outPrn s lo k).val = some (e, s') → LoopOK enPrn (loopN Tryz.f63 0) (stPrn s lo k) e s' := by
  refine loop_all (xs := F.bs s) (st := stPrn s lo) (n := ([5, 1, 0], [])) (e := ([], [])) (r := ([4], [])) ?_ ⟨by simp, rfl⟩ ⟨by simp, rfl⟩ (fun _ => rfl) ?_ k (by rw [F.bs_len]; exact hk)
  · rw [evPrnL, F.bs_len]; simp
  · intro k y hy
    have hk : k < s.size := by rw [← F.bs_len]; exact (List.getElem?_eq_some_iff.1 hy).1
    have hkz : ((k : Int) < (s.size : Int)) := by omega
    have hw : IntKind.i64.wrap ((k : Int) + 1) = ((k + 1 : Nat) : Int) := by rw [wrap_id (by omega) (by omega)]; rfl
    rw [evPrnL, F.bs_get, hy]
    simp only [hkz, decide_true, Option.bind_some, hw, F.visB]
    cases h1 : decide ((y.toNat : Int) < lo) <;> cases h2 : decide ((126 : Int) < (y.toNat : Int)) <;> simp_all [stPrn]

def encPrn1 (s : ByteArray) (lo : Int) : List AV := [vS s, vU lo]

def encPrn (a : ByteArray × Int) : List AV := encPrn1 a.1 a.2

theorem encPrn_inj (a a' : ByteArray × Int) (h : encPrn a = encPrn a') : a = a' := by
  simp only [encPrn, encPrn1] at h
  try simp  at h
  grind

theorem unPrn (s : ByteArray) (lo : Int) : unenc encPrn ([(vS s), (vU lo)]) = some (s, lo) := unenc_of encPrn_inj (s, lo) rfl

def resPrn1 (s : ByteArray) (lo : Int) : AV × Heap := (vB (F.vis s lo), [])

def prePrn1 (s : ByteArray) (lo : Int) : Bool := true

noncomputable def oPrn : Orc := orc 63 true encPrn (fun a => prePrn1 a.1 a.2) fun a => resPrn1 a.1 a.2

theorem okPrn : OrcOK Tryz.prog noG oPrn := by
  refine mk_ok Tryz.f63 (keep := false) (by kernel_rfl) (by kernel_rfl) enPrn_ok mixed (one_loop (x0 := loopN Tryz.f63 0) (by kernel_rfl) (lpo_ok ?_)) (by first | exact fun _ _ => ⟨rfl, rfl⟩ | (intro h; cases h)) ?_
  · rintro ⟨s, lo, k⟩ hp
    simp only [prlPrn, Bool.and_eq_true, decide_eq_true_eq] at hp
    exact lpPrn_ok s lo hp.1 k hp.2
  · rintro ⟨s, lo⟩ _ hok
    have hs := okA_str (hok _ (List.mem_cons_self ..))
    show (runF enPrn false _ (encPrn1 _ _)).val = some (resPrn1 _ _)
    unfold encPrn1 resPrn1
    rw [evPrn, unstPrn0]
    simp only [hs, F.vis, F.visL, Option.bind_some, List.drop_zero, decide_true, Bool.and_true, Nat.zero_le]
    cases (F.bs s).all (F.visB lo) <;> rfl

end M

def F.b0 (s : ByteArray) : Int := match (F.bs s)[0]? with
  | some b => (b.toNat : Int)
  | none => 0

def F.uriFault (s : ByteArray) : Int := if F.out s.size 1 200 || decide (F.b0 s = 35) || !F.vis s 33 then 3 else 0

def F.nameB (b : UInt8) : Bool := F.letter b.toNat || F.digit b.toNat || decide ((b.toNat : Int) = 45)

def F.nameL (l : List UInt8) : Bool := l.all F.nameB

def F.isName (s : ByteArray) : Bool := decide (s.size ≠ 0) && decide (s.size ≤ 40) && F.letter (F.b0 s) && F.nameL (F.bs s)

namespace M

noncomputable def enUri : Env := envH ty noG lks [oOut, oVis] [] [] []

theorem enUri_ok : EnvOK Tryz.prog enUri := by
  refine envH_ok lks_ok ty_ok ?_ ?_
  · simp only [List.forall_mem_cons]
    exact ⟨okOut, okVis, by simp⟩
  · simp

theorem evUri (s : ByteArray) : (runF enUri false Tryz.f57 [vS s]).val =
  Option.bind (unenc encOut [(vI (↑(ByteArray.size s) : Int)), (vI (1 : Int)), (vI (200 : Int))]) fun (z : Int × Int × Int) => bif !F.out z.fst z.snd.fst z.snd.snd then
  Option.bind s[(0 : Nat)]? fun (z_1 : UInt8) => bif !bif F.out z.fst z.snd.fst z.snd.snd then true else (↑(UInt8.toNat z_1) : Int) == (35 : Int) then Option.bind (unenc
  encVis [(vS s), (vU (33 : Int))]) fun (z_2 : ByteArray × Int) => bif bif bif F.out z.fst z.snd.fst z.snd.snd then true else (↑(UInt8.toNat z_1) : Int) == (35 : Int) then
  true else !F.vis z_2.fst z_2.snd then some ((vI (3 : Int)), []) else some ((vI (0 : Int)), []) else bif !bif F.out z.fst z.snd.fst z.snd.snd then true else (↑(UInt8.toNat
  z_1) : Int) == (35 : Int) then none else some ((vI (3 : Int)), []) else bif !F.out z.fst z.snd.fst z.snd.snd then none else some ((vI (3 : Int)), []) := by kernel_rfl

def encUri1 (s : ByteArray) : List AV := [vS s]

def encUri (a : ByteArray) : List AV := encUri1 a

theorem encUri_inj (a a' : ByteArray) (h : encUri a = encUri a') : a = a' := by
  simp only [encUri, encUri1] at h
  try simp  at h
  grind

theorem unUri (s : ByteArray) : unenc encUri ([(vS s)]) = some (s) := unenc_of encUri_inj (s) rfl

def resUri1 (s : ByteArray) : AV × Heap := (vI (F.uriFault s), [])

def preUri1 (s : ByteArray) : Bool := true

noncomputable def oUri : Orc := orc 57 true encUri (fun a => preUri1 a) fun a => resUri1 a

theorem okUri : OrcOK Tryz.prog noG oUri := by
  refine mk_ok Tryz.f57 (keep := false) (by kernel_rfl) (by kernel_rfl) enUri_ok mixed (no_loops (by kernel_rfl)) (by first | exact fun _ _ => ⟨rfl, rfl⟩ | (intro h; cases h)) ?_
  rintro s _ hok
  show (runF enUri false _ (encUri1 _)).val = some (resUri1 _)
  unfold encUri1 resUri1
  rw [evUri, unOut]
  simp only [Option.bind_some, unVis]
  unfold F.uriFault F.b0
  rw [F.bs_get]
  have h0 := F.bs_len s
  cases h1 : F.out s.size 1 200
  · have : 0 < s.size := by simp [F.out] at h1; omega
    cases hb : F.bs s with
    | nil => rw [hb] at h0; simp at h0; omega
    | cons b l =>
      simp
      grind
  · simp

def stName (s : ByteArray) (k : Nat) : St := ⟨[(20, vI k), (19, vI s.size), (0, vS s)], []⟩

def stName1 (a : ByteArray × Nat) : St := stName a.1 a.2

theorem stName_inj (a a' : ByteArray × Nat) (h : stName1 a = stName1 a') : a = a' := by
  simp only [stName1, stName] at h
  try simp  at h
  grind

theorem unstName0 (s : ByteArray)  : unenc stName1 (St.mk [(20, (vI (0 : Int))), (19, (vI (↑(ByteArray.size s) : Int))), (0, (vS s))] []) = some (s, 0) := unenc_of stName_inj (s, 0) rfl

def outName (s : ByteArray) (k : Nat) : T (Ex × St) := .ifB (F.nameL ((F.bs s).drop k)) (.ret (.exit 0, ⟨[], []⟩)) (.ret (.ret, ⟨[(2, vB false)], []⟩))

noncomputable def prlName (s : ByteArray) (k : Nat) : Bool := decide (s.size ≤ 9223372036854775807) && decide (k ≤ s.size)

noncomputable def lpName : Nat × (St → T (Ex × St)) := (4, lpo [20, 19, 0] [] stName1 (fun a => prlName a.1 a.2) fun a => outName a.1 a.2)

noncomputable def enName : Env := envH ty noG lks [oLetter, oDigit] [] [] [lpName]

theorem enName_ok : EnvOK Tryz.prog enName := by
  refine envH_ok lks_ok ty_ok ?_ ?_
  · simp only [List.forall_mem_cons]
    exact ⟨okLetter, okDigit, by simp⟩
  · simp

theorem evNameL (s : ByteArray) (k : Nat) : ((exec enName (loopN Tryz.f58 0) (stName s k)).bind (lessX ([20, 19, 0], []) ([], []) ([2], []))).val =
  (fun (q : Option (Ex × St)) => bif decide ((↑k : Int) < (↑(ByteArray.size s) : Int)) then Option.bind s[k]? fun (z : UInt8) => Option.bind (unenc encLetter [(vU
  (↑(UInt8.toNat z) : Int))]) fun (z : Int) => bif !F.letter z then Option.bind s[k]? fun (z_1 : UInt8) => bif !F.letter z then Option.bind (unenc encDigit [(vU
  (↑(UInt8.toNat z_1) : Int))]) fun (z_2 : Int) => (fun (q_1 : Bool) => bif q_1 then Option.bind s[k]? fun (z : UInt8) => bif bif q_1 then (↑(UInt8.toNat z) : Int) != (45 :
  Int) else false then some (Ex.ret, St.mk [(2, (vB false))] []) else q else bif q_1 then none else q) (bif !F.letter z then !F.digit z_2 else false) else bif !F.letter z
  then none else q else bif !F.letter z then Option.bind (unenc encDigit [AV.unk]) fun (z_1 : Int) => (fun (q_1 : Bool) => bif q_1 then Option.bind s[k]? fun (z : UInt8) =>
  bif bif q_1 then (↑(UInt8.toNat z) : Int) != (45 : Int) else false then some (Ex.ret, St.mk [(2, (vB false))] []) else q else bif q_1 then none else q) (bif !F.letter z
  then !F.digit z_1 else false) else bif !F.letter z then none else q else some (Ex.exit (0 : Nat), St.mk [] [])) (some (Ex.normal, St.mk [(20, (vI (IntKind.wrap IntKind.i64
  ((↑k : Int) + (1 : Int))))), (19, (vI (↑(ByteArray.size s) : Int))), (0, (vS s))] [])) := by kernel_rfl

theorem evName (s : ByteArray) : (runF enName false Tryz.f58 [vS s]).val =
  bif !bif (↑(ByteArray.size s) : Int) == (0 : Int) then true else decide ((40 : Int) < (↑(ByteArray.size s) : Int)) then Option.bind s[(0 : Nat)]? fun (z : UInt8) => bif
  !bif (↑(ByteArray.size s) : Int) == (0 : Int) then true else decide ((40 : Int) < (↑(ByteArray.size s) : Int)) then Option.bind (unenc encLetter [(vU (↑(UInt8.toNat z) :
  Int))]) fun (z : Int) => bif bif bif (↑(ByteArray.size s) : Int) == (0 : Int) then true else decide ((40 : Int) < (↑(ByteArray.size s) : Int)) then true else !F.letter z
  then some ((vB false), []) else Option.bind (unenc stName1 (St.mk [(20, (vI (0 : Int))), (19, (vI (↑(ByteArray.size s) : Int))), (0, (vS s))] [])) fun (z : ByteArray ×
  Nat) => bif decide (ByteArray.size z.fst ≤ (9223372036854775807 : Nat)) && decide (z.snd ≤ ByteArray.size z.fst) && true then bif F.nameL (List.drop z.snd (F.bs z.fst))
  then some ((vB true), []) else some ((vB false), []) else none else bif !bif (↑(ByteArray.size s) : Int) == (0 : Int) then true else decide ((40 : Int) < (↑(ByteArray.size
  s) : Int)) then none else some ((vB false), []) else bif !bif (↑(ByteArray.size s) : Int) == (0 : Int) then true else decide ((40 : Int) < (↑(ByteArray.size s) : Int))
  then Option.bind (unenc encLetter [AV.unk]) fun (z : Int) => bif bif bif (↑(ByteArray.size s) : Int) == (0 : Int) then true else decide ((40 : Int) < (↑(ByteArray.size s)
  : Int)) then true else !F.letter z then some ((vB false), []) else Option.bind (unenc stName1 (St.mk [(20, (vI (0 : Int))), (19, (vI (↑(ByteArray.size s) : Int))), (0, (vS
  s))] [])) fun (z : ByteArray × Nat) => bif decide (ByteArray.size z.fst ≤ (9223372036854775807 : Nat)) && decide (z.snd ≤ ByteArray.size z.fst) && true then bif F.nameL
  (List.drop z.snd (F.bs z.fst)) then some ((vB true), []) else some ((vB false), []) else none else bif !bif (↑(ByteArray.size s) : Int) == (0 : Int) then true else decide
  ((40 : Int) < (↑(ByteArray.size s) : Int)) then none else some ((vB false), []) := by kernel_rfl

theorem lpName_ok (s : ByteArray) (hs : s.size ≤ 9223372036854775807) (k : Nat) (hk : k ≤ s.size) : ∀ e s', (outName s k).val = some (e, s') → LoopOK enName (loopN Tryz.f58 0) (stName s k) e s' := by
  refine loop_all (xs := F.bs s) (st := stName s) (n := ([20, 19, 0], [])) (e := ([], [])) (r := ([2], [])) ?_ ⟨by simp, rfl⟩ ⟨by simp, rfl⟩ (fun _ => rfl) ?_ k (by rw [F.bs_len]; exact hk)
  · rw [evNameL, F.bs_len]; simp
  · intro k y hy
    have hk : k < s.size := by rw [← F.bs_len]; exact (List.getElem?_eq_some_iff.1 hy).1
    have hkz : ((k : Int) < (s.size : Int)) := by omega
    have hw : IntKind.i64.wrap ((k : Int) + 1) = ((k + 1 : Nat) : Int) := by rw [wrap_id (by omega) (by omega)]; rfl
    rw [evNameL, F.bs_get, hy]
    simp only [hkz, decide_true, Option.bind_some, hw, unLetter, unDigit, F.nameB, stName]
    grind

def encName1 (s : ByteArray) : List AV := [vS s]

def encName (a : ByteArray) : List AV := encName1 a

theorem encName_inj (a a' : ByteArray) (h : encName a = encName a') : a = a' := by
  simp only [encName, encName1] at h
  try simp  at h
  grind

theorem unName (s : ByteArray) : unenc encName ([(vS s)]) = some (s) := unenc_of encName_inj (s) rfl

def resName1 (s : ByteArray) : AV × Heap := (vB (F.isName s), [])

def preName1 (s : ByteArray) : Bool := true

noncomputable def oName : Orc := orc 58 true encName (fun a => preName1 a) fun a => resName1 a

theorem okName : OrcOK Tryz.prog noG oName := by
  refine mk_ok Tryz.f58 (keep := false) (by kernel_rfl) (by kernel_rfl) enName_ok mixed (one_loop (x0 := loopN Tryz.f58 0) (by kernel_rfl) (lpo_ok ?_)) (by first | exact fun _ _ => ⟨rfl, rfl⟩ | (intro h; cases h)) ?_
  · rintro ⟨s, k⟩ hp
    simp only [prlName, Bool.and_eq_true, decide_eq_true_eq] at hp
    exact lpName_ok s hp.1 k hp.2
  · rintro s _ hok
    have hs := okA_str (hok _ (List.mem_cons_self ..))
    show (runF enName false _ (encName1 _)).val = some (resName1 _)
    unfold encName1 resName1
    rw [evName]
    have h0 := F.bs_len s
    simp only [Option.bind_some, unLetter, unstName0, F.bs_get, F.isName, F.b0, hs]
    cases hb : F.bs s with
    | nil => rw [hb] at h0; simp at h0; simp [← h0]
    | cons b l =>
      rw [hb] at h0
      simp at h0
      have a1 : ((s.size : Int) == 0) = false := by rw [beq_eq_false_iff_ne]; omega
      have a2 : decide ((40 : Int) < s.size) = !decide (s.size ≤ 40) := by by_cases h : s.size ≤ 40 <;> simp [h] <;> omega
      have a3 : decide (s.size ≠ 0) = true := decide_eq_true (by omega)
      simp only [a1, a2, a3]
      cases decide (s.size ≤ 40) <;> cases h1 : F.letter b.toNat <;> cases h2 : F.nameL (b :: l) <;> simp [h1, h2]

end M

def F.extraFault (s : ByteArray) : Int := if !F.hasPrefix s ⟨#[35, 88]⟩ || !F.vis s 32 then 3 else if 300 < s.size then 2 else 0

def F.extrasFault (l : List ByteArray) : Int := M.ffI F.extraFault l

def F.entryFault (e : Ent) (target : Int) : Int :=
  if F.uriFault e.uri ≠ 0 then F.uriFault e.uri else
  if F.out e.milli 1 3600000 then 1 else
  if target < (e.milli + 500) / 1000 then 2 else
  if F.out e.date (-1) 253402300799999 then 1 else
  if !F.seq e.key ⟨#[]⟩ && !F.isName e.key then 5 else
  if 20 < e.extra.length then 2 else F.extrasFault e.extra

def F.entsFault (target : Int) (l : List Ent) : Int := M.ffI (fun e => F.entryFault e target) l

def F.check (l : Lst) : Int :=
  if F.out l.target 1 3600 || F.out l.first 0 999999999999000 || F.out l.breaks 0 1000000000000000 then 1 else
  if 1000 < l.entries.length then 2 else F.entsFault l.target l.entries

namespace M

def stEntF (xs : List ByteArray) (k : Nat) : St := ⟨[(47, vI k), (46, vI xs.length), (45, .sl (xs.map eStr))], []⟩

def stEntF1 (a : (List ByteArray) × Nat) : St := stEntF a.1 a.2

theorem stEntF_inj (a a' : (List ByteArray) × Nat) (h : stEntF1 a = stEntF1 a') : a = a' := by
  simp only [stEntF1, stEntF] at h
  try simp [strs_inj, ents_inj, eEnt_iff, eLst_iff] at h
  grind

theorem unstEntF0 (xs : List ByteArray)  : unenc stEntF1 (St.mk [(47, (vI (0 : Int))), (46, (vI (↑(List.length xs) : Int))), (45, AV.sl (List.map eStr xs))] []) = some (xs, 0) := unenc_of stEntF_inj (xs, 0) rfl

def outEntF (xs : List ByteArray) (k : Nat) : T (Ex × St) := .ifB (decide (F.extrasFault (xs.drop k) = 0)) (.ret (.exit 1, ⟨[], []⟩)) (.ret (.ret, ⟨[(4, vI (F.extrasFault (xs.drop k)))], []⟩))

noncomputable def prlEntF (xs : List ByteArray) (k : Nat) : Bool := decide (xs.length ≤ 9223372036854775807) && decide (k ≤ xs.length)

noncomputable def lpEntF : Nat × (St → T (Ex × St)) := (15, lpo [47, 46, 45] [] stEntF1 (fun a => prlEntF a.1 a.2) fun a => outEntF a.1 a.2)

noncomputable def enEntF : Env := envH ty noG lks [oUri, oOut, oName, oHasPre, oVis] [] [] [lpEntF]

theorem enEntF_ok : EnvOK Tryz.prog enEntF := by
  refine envH_ok lks_ok ty_ok ?_ ?_
  · simp only [List.forall_mem_cons]
    exact ⟨okUri, okOut, okName, okHasPre, okVis, by simp⟩
  · simp

theorem evEntFL (xs : List ByteArray) (k : Nat) : ((exec enEntF (loopN Tryz.f29 0) (stEntF xs k)).bind (lessX ([47, 46, 45], []) ([], []) ([4], []))).val =
  bif decide ((↑k : Int) < (↑(List.length xs) : Int)) then Option.bind (unenc (List.map eStr) (List.map eStr xs)) fun (z : List ByteArray) => bif decide (k < List.length z)
  then Option.bind (unenc encHasPre [(vS (List.getD z k (ByteArray.mk (Array.mk [])))), (vS (ByteArray.mk (Array.mk [(35 : UInt8), (88 : UInt8)])))]) fun (z_1 : ByteArray ×
  ByteArray) => bif !!F.hasPrefix z_1.fst z_1.snd then Option.bind (unenc encVis [(vS (List.getD z k (ByteArray.mk (Array.mk [])))), (vU (32 : Int))]) fun (z_2 : ByteArray ×
  Int) => bif bif !F.hasPrefix z_1.fst z_1.snd then true else !F.vis z_2.fst z_2.snd then some (Ex.ret, St.mk [(4, (vI (3 : Int)))] []) else bif decide ((300 : Int) <
  (↑(ByteArray.size (List.getD z k (ByteArray.mk (Array.mk [])))) : Int)) then some (Ex.ret, St.mk [(4, (vI (2 : Int)))] []) else some (Ex.normal, St.mk [(47, (vI
  (IntKind.wrap IntKind.i64 ((↑k : Int) + (1 : Int))))), (46, (vI (↑(List.length xs) : Int))), (45, AV.sl (List.map eStr xs))] []) else bif !!F.hasPrefix z_1.fst z_1.snd
  then none else some (Ex.ret, St.mk [(4, (vI (3 : Int)))] []) else none else some (Ex.exit (1 : Nat), St.mk [] []) := by kernel_rfl

theorem evEntF (e : Ent) (t : Int) : (runF enEntF false Tryz.f29 [.agg (eEnt e), vI t]).val =
  (fun (q : Int) => (fun (q_1 : Bool) => (fun (q : Option (AV × Heap)) => Option.bind (unenc encUri [(vS e.uri)]) fun (z : ByteArray) => bif F.uriFault z != (0 : Int) then
  some ((vI (F.uriFault z)), []) else Option.bind (unenc encOut [(vI e.milli), (vI (1 : Int)), (vI (3600000 : Int))]) fun (z : Int × Int × Int) => bif F.out z.fst z.snd.fst
  z.snd.snd then some ((vI (1 : Int)), []) else bif decide (t < IntKind.wrap IntKind.i64 (Int.tdiv (IntKind.wrap IntKind.i64 (e.milli + (500 : Int))) (1000 : Int))) then
  some ((vI (2 : Int)), []) else Option.bind (unenc encOut [(vI e.date), (vI (-1 : Int)), (vI (253402300799999 : Int))]) fun (z : Int × Int × Int) => bif F.out z.fst
  z.snd.fst z.snd.snd then some ((vI (1 : Int)), []) else bif q_1 then Option.bind (unenc encName [(vS e.key)]) fun (z : ByteArray) => bif bif q_1 then !F.isName z else
  false then some ((vI (5 : Int)), []) else q else bif q_1 then none else q) (bif decide ((20 : Int) < q) then some ((vI (2 : Int)), []) else Option.bind (unenc stEntF1
  (St.mk [(47, (vI (0 : Int))), (46, (vI q)), (45, AV.sl (List.map eStr e.extra))] [])) fun (z : List ByteArray × Nat) => bif decide (List.length z.fst ≤
  (9223372036854775807 : Nat)) && decide (z.snd ≤ List.length z.fst) && true then bif decide (F.extrasFault (List.drop z.snd z.fst) = (0 : Int)) then some ((vI (0 : Int)),
  []) else some ((vI (F.extrasFault (List.drop z.snd z.fst))), []) else none)) !ByteArray.toList e.key == ByteArray.toList (ByteArray.mk (Array.mk []))) (↑(List.length
  (List.map eStr e.extra)) : Int) := by kernel_rfl

theorem lpEntF_ok (xs : List ByteArray) (hs : xs.length ≤ 9223372036854775807) (k : Nat) (hk : k ≤ xs.length) : ∀ e s', (outEntF xs k).val = some (e, s') → LoopOK enEntF (loopN Tryz.f29 0) (stEntF xs k) e s' := by
  refine loop_code (xs := xs) (st := stEntF xs) (g := F.extraFault) (o := fun c => (.ret, ⟨[(4, vI c)], []⟩)) (n := ([47, 46, 45], [])) (e := ([], [])) (r := ([4], [])) ?_ ⟨by simp, rfl⟩ (fun _ => ⟨by simp, rfl⟩) (fun _ => rfl) ?_ k hk
  · rw [evEntFL]; simp
  · intro k y hy
    have hlt := lt_at hy
    rw [evEntFL]
    simp only [cast_lt hlt, decide_eq_true hlt, Option.bind_some, next_at hlt hs, unStrs, unHasPre, unVis, getD_at hy, F.extraFault, stEntF]
    grind

def encEntF1 (e : Ent) (t : Int) : List AV := [.agg (eEnt e), vI t]

def encEntF (a : Ent × Int) : List AV := encEntF1 a.1 a.2

theorem encEntF_inj (a a' : Ent × Int) (h : encEntF a = encEntF a') : a = a' := by
  simp only [encEntF, encEntF1] at h
  try simp [strs_inj, ents_inj, eEnt_iff, eLst_iff] at h
  grind

theorem unEntF (e : Ent) (t : Int) : unenc encEntF ([AV.agg [(vS e.uri), (vI e.milli), (vB e.brk), (vI e.date), (vS e.key), (vB e.gap), AV.sl (List.map eStr e.extra)], (vI t)]) = some (e, t) := unenc_of encEntF_inj (e, t) rfl

theorem unEntFw (e_uri : ByteArray) (e_milli : Int) (e_brk : Bool) (e_date : Int) (e_key : ByteArray) (e_gap : Bool) (e_extra : List ByteArray) (t : Int) : unenc encEntF ([AV.agg [(vS e_uri), (vI e_milli), (vB e_brk), (vI e_date), (vS e_key), (vB e_gap), AV.sl (List.map eStr e_extra)], (vI t)]) = some ((Ent.mk e_uri e_milli e_brk e_date e_key e_gap e_extra), t) := unenc_of encEntF_inj ((Ent.mk e_uri e_milli e_brk e_date e_key e_gap e_extra), t) rfl

def resEntF1 (e : Ent) (t : Int) : AV × Heap := (vI (F.entryFault e t), [])

def preEntF1 (e : Ent) (t : Int) : Bool := true

noncomputable def oEntF : Orc := orc 29 true encEntF (fun a => preEntF1 a.1 a.2) fun a => resEntF1 a.1 a.2

theorem ent_bounds {e : Ent} (h : OkA (.agg (eEnt e))) : (-9223372036854775808 ≤ e.milli ∧ e.milli ≤ 9223372036854775807) ∧ e.extra.length ≤ 9223372036854775807 ∧ (-9223372036854775808 ≤ e.date ∧ e.date ≤ 9223372036854775807) ∧ e.uri.size ≤ 9223372036854775807 ∧ e.key.size ≤ 9223372036854775807 := by
  have h := okA_agg h
  simp only [eEnt, List.forall_mem_cons] at h
  obtain ⟨h1, h2, h3, h4, h5, h6, h7, _⟩ := h
  refine ⟨okA_int h2, ?_, okA_int h4, okA_str h1, okA_str h5⟩
  simpa using (okA_sl h7).1

theorem okEntF : OrcOK Tryz.prog noG oEntF := by
  refine mk_ok Tryz.f29 (keep := false) (by kernel_rfl) (by kernel_rfl) enEntF_ok mixed (one_loop (x0 := loopN Tryz.f29 0) (by kernel_rfl) (lpo_ok ?_)) (by first | exact fun _ _ => ⟨rfl, rfl⟩ | (intro h; cases h)) ?_
  · rintro ⟨xs, k⟩ hp
    simp only [prlEntF, Bool.and_eq_true, decide_eq_true_eq] at hp
    exact lpEntF_ok xs hp.1 k hp.2
  · rintro ⟨e, t⟩ _ hok
    obtain ⟨hm, hx, _⟩ := ent_bounds (hok _ (List.mem_cons_self ..))
    show (runF enEntF false _ (encEntF1 _ _)).val = some (resEntF1 _ _)
    unfold encEntF1 resEntF1
    rw [evEntF]
    simp only [unUri, unOut, unName, unstEntF0, Option.bind_some, List.length_map, F.entryFault, F.seq, hx]
    cases h1 : F.out e.milli 1 3600000
    · have : IntKind.i64.wrap (Int.tdiv (IntKind.i64.wrap (e.milli + 500)) 1000) = (e.milli + 500) / 1000 := by
        simp [F.out] at h1
        rw [wrap_id (n := e.milli + 500) (by omega) (by omega), tdiv_nn (by omega), wrap_id (by omega) (by omega)]
      rw [this]
      simp only [Bool.cond_eq_ite]
      grind
    · simp only [Bool.cond_eq_ite]
      grind

end M

def F.rnm : Nat → List UInt8 → Bool
  | _, [] => true
  | k, b :: l => (F.letter b.toNat || (decide (k ≠ 0) && (F.digit b.toNat || decide ((b.toNat : Int) = 45)))) && F.rnm (k + 1) l

theorem F.rnm_succ (k : Nat) (hk : k ≠ 0) : ∀ l, F.rnm k l = F.nameL l
  | [] => rfl
  | b :: l => by
    simp only [F.rnm, F.nameL, List.all_cons, F.nameB]
    rw [F.rnm_succ (k + 1) (by omega) l]
    simp [hk, F.nameL, Bool.or_assoc]

theorem F.isName_eq (s : ByteArray) : F.isName s = (F.rnm 0 (F.bs s) && decide (s.size ≠ 0) && decide (s.size ≤ 40)) := by
  have h0 := F.bs_len s
  unfold F.isName F.b0
  cases hb : F.bs s with
  | nil => rw [hb] at h0; simp at h0; simp [← h0]
  | cons b l =>
    simp only [F.rnm, F.nameL, List.all_cons]
    rw [F.rnm_succ 1 (by omega)]
    simp only [F.nameL, List.getElem?_cons_zero, F.nameB]
    cases F.letter b.toNat <;> simp
    cases l.all F.nameB <;> simp

namespace M

def stRNm (s : ByteArray) (k : Nat) : St := ⟨[(3, vI k), (0, vS s)], []⟩

def stRNm1 (a : ByteArray × Nat) : St := stRNm a.1 a.2

theorem stRNm_inj (a a' : ByteArray × Nat) (h : stRNm1 a = stRNm1 a') : a = a' := by
  simp only [stRNm1, stRNm] at h
  try simp [strs_inj, ents_inj, eEnt_iff, eLst_iff] at h
  grind

theorem unstRNm (s : ByteArray) (k : Nat) : unenc stRNm1 (St.mk [(3, (vI (↑k : Int))), (0, (vS s))] []) = some (s, k) := unenc_of stRNm_inj (s, k) rfl

theorem unstRNm0 (s : ByteArray)  : unenc stRNm1 (St.mk [(3, (vI (0 : Int))), (0, (vS s))] []) = some (s, 0) := unenc_of stRNm_inj (s, 0) rfl

def outRNm (s : ByteArray) (k : Nat) : T (Ex × St) := .ifB (F.rnm k ((F.bs s).drop k)) (.ret (.exit 0, ⟨[(0, vS s)], []⟩)) (.ret (.ret, ⟨[(2, vB false)], []⟩))

noncomputable def prlRNm (s : ByteArray) (k : Nat) : Bool := decide (s.size ≤ 9223372036854775807) && decide (k ≤ s.size)

noncomputable def lpRNm : Nat × (St → T (Ex × St)) := (2, lpo [3, 0] [] stRNm1 (fun a => prlRNm a.1 a.2) fun a => outRNm a.1 a.2)

noncomputable def enRNm : Env := envH ty noG lks [] [] [] [lpRNm]

theorem enRNm_ok : EnvOK Tryz.prog enRNm := by
  refine envH_ok lks_ok ty_ok ?_ ?_
  · simp
  · simp

theorem evRNmL (s : ByteArray) (k : Nat) : ((exec enRNm (loopN Tryz.f62 0) (stRNm s k)).bind (lessX ([3, 0], []) ([0], []) ([2], []))).val =
  bif decide ((↑k : Int) < (↑(ByteArray.size s) : Int)) then Option.bind s[k]? fun (z : UInt8) => bif bif !bif decide ((97 : Int) ≤ (↑(UInt8.toNat z) : Int)) then decide
  ((↑(UInt8.toNat z) : Int) ≤ (122 : Int)) else false then bif (↑k : Int) == (0 : Int) then true else bif (↑(UInt8.toNat z) : Int) != (45 : Int) then !bif decide ((48 : Int)
  ≤ (↑(UInt8.toNat z) : Int)) then decide ((↑(UInt8.toNat z) : Int) ≤ (57 : Int)) else false else false else false then some (Ex.ret, St.mk [(2, (vB false))] []) else some
  (Ex.normal, St.mk [(3, (vI (IntKind.wrap IntKind.i64 ((↑k : Int) + (1 : Int))))), (0, (vS s))] []) else some (Ex.exit (0 : Nat), St.mk [(0, (vS s))] []) := by kernel_rfl

theorem lpRNm_ok (s : ByteArray) (k : Nat) (hp : prlRNm s k = true) : ∀ ex s', (outRNm s k).val = some (ex, s') → LoopOK enRNm (loopN Tryz.f62 0) (stRNm s k) ex s' := by
  simp only [prlRNm, Bool.and_eq_true, decide_eq_true_eq] at hp
  refine loop_gen (st := stRNm s) (out := outRNm s) (I := fun k => k ≤ s.size) (n := ([3, 0], [])) (e := ([0], [])) (r := ([2], [])) (fun k => s.size - k) ?_ k hp.2
  intro k hk
  have h0 := F.bs_len s
  by_cases hlt : k < s.size
  · have hy : (F.bs s)[k]? = some ((F.bs s)[k]'(by omega)) := List.getElem?_eq_getElem (by omega)
    generalize (F.bs s)[k]'(by omega) = y at hy
    have hd : (F.bs s).drop k = y :: (F.bs s).drop (k + 1) := by
      rw [List.drop_eq_getElem_cons (by omega)]
      congr 1
      exact (List.getElem?_eq_some_iff.1 hy).2
    rw [evRNmL]
    simp only [cast_lt hlt, F.bs_get, hy, Option.bind_some, next_at hlt hp.1, outRNm, hd, F.rnm, F.letter, F.digit, stRNm, cond_true]
    have hk0 : ((k : Int) == 0) = !decide (k ≠ 0) := by by_cases h : k = 0 <;> simp [h]
    simp only [hk0]
    cases hb : (F.letter y.toNat || (decide (k ≠ 0) && (F.digit y.toNat || decide ((y.toNat : Int) = 45))))
    · left
      refine ⟨(.ret, ⟨[(2, vB false)], []⟩), ?_, ?_, by simp, rfl⟩
      · simp only [F.letter, F.digit] at hb
        grind
      · simp only [F.letter, F.digit] at hb
        rw [hb]; rfl
    · right
      refine ⟨k + 1, ?_, rfl, by omega, by omega, ?_⟩
      · simp only [F.letter, F.digit] at hb
        grind
      · simp only [F.letter, F.digit] at hb
        rw [hb]; rfl
  · have : k = s.size := by omega
    subst this
    left
    refine ⟨(.exit 0, ⟨[(0, vS s)], []⟩), ?_, ?_, by simp, rfl⟩
    · rw [evRNmL]; simp
    · simp [outRNm, ← h0, F.rnm, T.val]

theorem evRNm (s : ByteArray) : (runF enRNm false Tryz.f62 [vS s]).val =
  Option.bind (unenc stRNm1 (St.mk [(3, (vI (0 : Int))), (0, (vS s))] [])) fun (z : ByteArray × Nat) => bif decide (ByteArray.size z.fst ≤ (9223372036854775807 : Nat)) &&
  decide (z.snd ≤ ByteArray.size z.fst) && true then bif F.rnm z.snd (List.drop z.snd (F.bs z.fst)) then some ((vB (bif !ByteArray.toList z.fst == ByteArray.toList
  (ByteArray.mk (Array.mk [])) then decide ((↑(ByteArray.size z.fst) : Int) ≤ (40 : Int)) else false)), []) else some ((vB false), []) else none := by kernel_rfl

def encRNm1 (s : ByteArray) : List AV := [vS s]

def encRNm (a : ByteArray) : List AV := encRNm1 a

theorem encRNm_inj (a a' : ByteArray) (h : encRNm a = encRNm a') : a = a' := by
  simp only [encRNm, encRNm1] at h
  try simp [strs_inj, ents_inj, eEnt_iff, eLst_iff] at h
  grind

theorem unRNm (s : ByteArray) : unenc encRNm ([(vS s)]) = some (s) := unenc_of encRNm_inj (s) rfl

def resRNm1 (s : ByteArray) : AV × Heap := (vB (F.isName s), [])

def preRNm1 (s : ByteArray) : Bool := true

noncomputable def oRNm : Orc := orc 62 true encRNm (fun a => preRNm1 a) fun a => resRNm1 a

theorem okRNm : OrcOK Tryz.prog noG oRNm := by
  refine mk_ok Tryz.f62 (keep := false) (by kernel_rfl) (by kernel_rfl) enRNm_ok mixed (one_loop (x0 := loopN Tryz.f62 0) (by kernel_rfl) (lpo_ok ?_)) (by first | exact fun _ _ => ⟨rfl, rfl⟩ | (intro h; cases h)) ?_
  · rintro ⟨s, k⟩ hp
    exact lpRNm_ok s k hp
  rintro s hpre hok
  show (runF enRNm false _ (encRNm1 _)).val = some (resRNm1 _)
  unfold encRNm1 resRNm1
  rw [evRNm]
  have hs := okA_str (hok _ (List.mem_cons_self ..))
  simp only [unstRNm, unstRNm0, prlRNm, outRNm, etaEnt, etaLst, Option.bind_some, List.length_map, unStrs, unInts, unBools, unEnts, unItms, unTrns, cond_true, cond_false, Bool.and_true, Bool.true_and, hs, F.isName_eq, List.drop_zero, Nat.zero_le, decide_true]
  have e1 : (s.toList == ByteArray.toList (ByteArray.mk (Array.mk []))) = !decide (s.size ≠ 0) := by
    have : s.toList.length = s.size := by simp [ByteArray.toList_eq]
    have e0 : ByteArray.toList (ByteArray.mk (Array.mk [])) = [] := by simp [ByteArray.toList_eq]
    rw [e0]
    by_cases h : s.size = 0
    · have : s.toList = [] := List.eq_nil_of_length_eq_zero (by omega)
      simp [h, this]
    · have : s.toList ≠ [] := fun hh => h (by rw [← this, hh]; rfl)
      simp [h, this]
  have e2 : decide ((s.size : Int) ≤ 40) = decide (s.size ≤ 40) := by by_cases h : s.size ≤ 40 <;> simp [h] <;> omega
  simp only [e1, e2]
  cases F.rnm 0 (F.bs s) <;> cases decide (s.size ≠ 0) <;> cases decide (s.size ≤ 40) <;> rfl

end M

theorem F.empty_eq (s : ByteArray) : (s.toList == ByteArray.toList (ByteArray.mk (Array.mk []))) = !decide (s.size ≠ 0) := by
  have : s.toList.length = s.size := by simp [ByteArray.toList_eq]
  have e0 : ByteArray.toList (ByteArray.mk (Array.mk [])) = [] := by simp [ByteArray.toList_eq]
  rw [e0]
  by_cases h : s.size = 0
  · have : s.toList = [] := List.eq_nil_of_length_eq_zero (by omega)
    simp [h, this]
  · have : s.toList ≠ [] := fun hh => h (by rw [← this, hh]; rfl)
    simp [h, this]

theorem F.within_eq (n l h : Int) : F.within n l h = !F.out n l h := by
  unfold F.within F.out
  by_cases h1 : l ≤ n <;> by_cases h2 : n ≤ h <;> simp [h1, h2] <;> omega

namespace M

noncomputable def enIsUri : Env := envH ty noG lks [oPrn] [] [] []

theorem enIsUri_ok : EnvOK Tryz.prog enIsUri := by
  refine envH_ok lks_ok ty_ok ?_ ?_
  · simp only [List.forall_mem_cons]
    exact ⟨okPrn, by simp⟩
  · simp

theorem evIsUri (s : ByteArray) : (runF enIsUri false Tryz.f61 [vS s]).val =
  bif bif !ByteArray.toList s == ByteArray.toList (ByteArray.mk (Array.mk [])) then decide ((↑(ByteArray.size s) : Int) ≤ (200 : Int)) else false then Option.bind (unenc
  encPrn [(vS s), (vU (33 : Int))]) fun (z : ByteArray × Int) => bif bif bif !ByteArray.toList s == ByteArray.toList (ByteArray.mk (Array.mk [])) then decide
  ((↑(ByteArray.size s) : Int) ≤ (200 : Int)) else false then F.vis z.fst z.snd else false then Option.bind s[(0 : Nat)]? fun (z_1 : UInt8) => some ((vB (bif bif bif
  !ByteArray.toList s == ByteArray.toList (ByteArray.mk (Array.mk [])) then decide ((↑(ByteArray.size s) : Int) ≤ (200 : Int)) else false then F.vis z.fst z.snd else false
  then (↑(UInt8.toNat z_1) : Int) != (35 : Int) else false)), []) else bif bif bif !ByteArray.toList s == ByteArray.toList (ByteArray.mk (Array.mk [])) then decide
  ((↑(ByteArray.size s) : Int) ≤ (200 : Int)) else false then F.vis z.fst z.snd else false then none else some ((vB false), []) else some ((vB false), []) := by kernel_rfl

def encIsUri1 (s : ByteArray) : List AV := [vS s]

def encIsUri (a : ByteArray) : List AV := encIsUri1 a

theorem encIsUri_inj (a a' : ByteArray) (h : encIsUri a = encIsUri a') : a = a' := by
  simp only [encIsUri, encIsUri1] at h
  try simp [strs_inj, ents_inj, eEnt_iff, eLst_iff] at h
  grind

theorem unIsUri (s : ByteArray) : unenc encIsUri ([(vS s)]) = some (s) := unenc_of encIsUri_inj (s) rfl

def resIsUri1 (s : ByteArray) : AV × Heap := (vB (decide (F.uriFault s = 0)), [])

def preIsUri1 (s : ByteArray) : Bool := true

noncomputable def oIsUri : Orc := orc 61 true encIsUri (fun a => preIsUri1 a) fun a => resIsUri1 a

theorem okIsUri : OrcOK Tryz.prog noG oIsUri := by
  refine mk_ok Tryz.f61 (keep := false) (by kernel_rfl) (by kernel_rfl) enIsUri_ok mixed (no_loops (by kernel_rfl)) (by first | exact fun _ _ => ⟨rfl, rfl⟩ | (intro h; cases h)) ?_
  rintro s hpre hok
  show (runF enIsUri false _ (encIsUri1 _)).val = some (resIsUri1 _)
  unfold encIsUri1 resIsUri1
  rw [evIsUri]
  have hs := okA_str (hok _ (List.mem_cons_self ..))
  simp only [unPrn, prePrn1, etaEnt, etaLst, Option.bind_some, List.length_map, unStrs, unInts, unBools, unEnts, unItms, unTrns, cond_true, cond_false, Bool.and_true, Bool.true_and, F.empty_eq, F.bs_get]
  have h0 := F.bs_len s
  unfold F.uriFault F.b0 F.out
  cases hb : F.bs s with
  | nil =>
    rw [hb] at h0; simp at h0
    simp [← h0]
  | cons b l =>
    rw [hb] at h0; simp at h0
    have a1 : decide ((s.size : Int) < 1) = false := decide_eq_false (by omega)
    have a2 : decide (s.size ≠ 0) = true := decide_eq_true (by omega)
    have a3 : decide ((s.size : Int) ≤ 200) = !decide ((200 : Int) < s.size) := by by_cases h : (200 : Int) < s.size <;> simp [h] <;> omega
    simp only [a1, a2, a3, Bool.cond_eq_ite, List.getElem?_cons_zero, Option.bind_some]
    cases h1 : decide ((200 : Int) < s.size) <;> cases h2 : F.vis s 33 <;> by_cases h3 : (b.toNat : Int) = 35 <;> simp_all

def stRchE (e : Ent) (k : Nat) : St := ⟨[(5, vI k), (2, .ptr 2 0 0)], [(2, ⟨true, 0, 0, [eEnt e]⟩)]⟩

def stRchE1 (a : Ent × Nat) : St := stRchE a.1 a.2

theorem stRchE_inj (a a' : Ent × Nat) (h : stRchE1 a = stRchE1 a') : a = a' := by
  simp only [stRchE1, stRchE] at h
  try simp [strs_inj, ents_inj, eEnt_iff, eLst_iff] at h
  grind

theorem unstRchE (e : Ent) (k : Nat) : unenc stRchE1 (St.mk [(5, (vI (↑k : Int))), (2, .ptr 2 0 0)] [(2, Blk.mk true 0 0 [[(vS e.uri), (vI e.milli), (vB e.brk), (vI e.date), (vS e.key), (vB e.gap), AV.sl (List.map eStr
  e.extra)]])]) = some (e, k) := unenc_of stRchE_inj (e, k) rfl

theorem unstRchE0 (e : Ent)  : unenc stRchE1 (St.mk [(5, (vI (0 : Int))), (2, .ptr 2 0 0)] [(2, Blk.mk true 0 0 [[(vS e.uri), (vI e.milli), (vB e.brk), (vI e.date), (vS e.key), (vB e.gap), AV.sl (List.map eStr
  e.extra)]])]) = some (e, 0) := unenc_of stRchE_inj (e, 0) rfl

def outRchE (e : Ent) (k : Nat) : T (Ex × St) := .ifB (decide (F.extrasFault (e.extra.drop k) = 0)) (.ret (.exit 0, ⟨[], []⟩)) (.ret (.ret, ⟨[(4, vI (F.extrasFault (e.extra.drop k)))], []⟩))

noncomputable def prlRchE (e : Ent) (k : Nat) : Bool := decide (e.extra.length ≤ 9223372036854775807) && decide (k ≤ e.extra.length)

noncomputable def lpRchE : Nat × (St → T (Ex × St)) := (14, lpo [5, 2] [2] stRchE1 (fun a => prlRchE a.1 a.2) fun a => outRchE a.1 a.2)

noncomputable def enRchE : Env := envH ty noG lks [oIsUri, oWithin, oRNm, oHasPre, oPrn] [] [] [lpRchE]

theorem enRchE_ok : EnvOK Tryz.prog enRchE := by
  refine envH_ok lks_ok ty_ok ?_ ?_
  · simp only [List.forall_mem_cons]
    exact ⟨okIsUri, okWithin, okRNm, okHasPre, okPrn, by simp⟩
  · simp

theorem evRchEL (e : Ent) (k : Nat) : ((exec enRchE (loopN Tryz.f31 0) (stRchE e k)).bind (lessX ([5, 2], [2]) ([], []) ([4], []))).val =
  (fun (q : Option (Ex × St)) => (fun (q_1 : Option (Ex × St)) => bif decide ((↑k : Int) < (↑(List.length (List.map eStr e.extra)) : Int)) then Option.bind (unenc (List.map
  eStr) (List.map eStr e.extra)) fun (z : List ByteArray) => bif decide (k < List.length z) then Option.bind (unenc encHasPre [(vS (List.getD z k (ByteArray.mk (Array.mk
  [])))), (vS (ByteArray.mk (Array.mk [(35 : UInt8), (88 : UInt8)])))]) fun (z : ByteArray × ByteArray) => (fun (q_2 : Bool) => bif q_2 then Option.bind (unenc (List.map
  eStr) (List.map eStr e.extra)) fun (z_1 : List ByteArray) => bif decide (k < List.length z_1) then bif q_2 then Option.bind (unenc encPrn [(vS (List.getD z_1 k
  (ByteArray.mk (Array.mk [])))), (vU (32 : Int))]) fun (z_2 : ByteArray × Int) => bif bif !F.hasPrefix z.fst z.snd then true else !F.vis z_2.fst z_2.snd then q else q_1
  else bif q_2 then none else q else none else bif q_2 then none else bif q_2 then Option.bind (unenc encPrn [AV.unk, (vU (32 : Int))]) fun (z_1 : ByteArray × Int) => bif
  bif !F.hasPrefix z.fst z.snd then true else !F.vis z_1.fst z_1.snd then q else q_1 else bif q_2 then none else q) !!F.hasPrefix z.fst z.snd else none else some (Ex.exit (0
  : Nat), St.mk [] [])) (Option.bind (unenc (List.map eStr) (List.map eStr e.extra)) fun (z : List ByteArray) => bif decide (k < List.length z) then bif decide ((300 : Int)
  < (↑(ByteArray.size (List.getD z k (ByteArray.mk (Array.mk [])))) : Int)) then some (Ex.ret, St.mk [(4, (vI (2 : Int)))] []) else some (Ex.normal, St.mk [(5, (vI
  (IntKind.wrap IntKind.i64 ((↑k : Int) + (1 : Int))))), (2, .ptr 2 0 0)] [(2, Blk.mk true 0 0 [[(vS e.uri), (vI e.milli), (vB e.brk), (vI e.date), (vS e.key), (vB e.gap),
  AV.sl (List.map eStr e.extra)]])]) else none)) (some (Ex.ret, St.mk [(4, (vI (3 : Int)))] [])) := by kernel_rfl

theorem lpRchE_ok (e : Ent) (k : Nat) (hp : prlRchE e k = true) : ∀ ex s', (outRchE e k).val = some (ex, s') → LoopOK enRchE (loopN Tryz.f31 0) (stRchE e k) ex s' := by
  simp only [prlRchE, Bool.and_eq_true, decide_eq_true_eq] at hp
  refine loop_code (xs := e.extra) (st := stRchE e) (g := F.extraFault) (o := fun c => (.ret, ⟨[(4, vI c)], []⟩)) (n := ([5, 2], [2])) (e := ([], [])) (r := ([4], [])) ?_ ⟨by simp, rfl⟩ (fun _ => ⟨by simp, rfl⟩) (fun _ => rfl) ?_ k hp.2
  · rw [evRchEL]; simp
  · intro k y hy
    have hlt := lt_at hy
    rw [evRchEL]
    simp only [unIsUri, unWithin, unRNm, unHasPre, unPrn, preIsUri1, preWithin1, preRNm1, preHasPre1, prePrn1, unstRchE, unstRchE0, prlRchE, outRchE, etaEnt, etaLst, Option.bind_some, List.length_map, unStrs, unInts, unBools, unEnts, unItms, unTrns, cond_true, cond_false, Bool.and_true, Bool.true_and, cast_lt hlt, decide_eq_true hlt, next_at hlt hp.1, getD_at hy, F.extraFault, stRchE, eEnt]
    grind

theorem evRchE (e : Ent) (t : Int) : (runF enRchE false Tryz.f31 [.agg (eEnt e), vI t]).val =
  (fun (q : Bool) => (fun (q_1 : Option (AV × Heap)) => Option.bind (unenc encIsUri [(vS e.uri)]) fun (z : ByteArray) => bif !decide (F.uriFault z = (0 : Int)) then some
  ((vI (3 : Int)), []) else Option.bind (unenc encWithin [(vI e.milli), (vI (1 : Int)), (vI (3600000 : Int))]) fun (z : Int × Int × Int) => bif !F.within z.fst z.snd.fst
  z.snd.snd then some ((vI (1 : Int)), []) else bif decide (t < IntKind.wrap IntKind.i64 (Int.tdiv (IntKind.wrap IntKind.i64 (e.milli + (500 : Int))) (1000 : Int))) then
  some ((vI (2 : Int)), []) else Option.bind (unenc encWithin [(vI e.date), (vI (-1 : Int)), (vI (253402300799999 : Int))]) fun (z : Int × Int × Int) => bif !F.within z.fst
  z.snd.fst z.snd.snd then some ((vI (1 : Int)), []) else bif q then Option.bind (unenc encRNm [(vS e.key)]) fun (z : ByteArray) => bif bif q then !F.isName z else false
  then some ((vI (5 : Int)), []) else q_1 else bif q then none else q_1) (bif decide ((20 : Int) < (↑(List.length (List.map eStr e.extra)) : Int)) then some ((vI (2 : Int)),
  []) else Option.bind (unenc stRchE1 (St.mk [(5, (vI (0 : Int))), (2, .ptr 2 0 0)] [(2, Blk.mk true 0 0 [[(vS e.uri), (vI e.milli), (vB e.brk), (vI e.date), (vS e.key), (vB
  e.gap), AV.sl (List.map eStr e.extra)]])])) fun (z : Ent × Nat) => bif decide (List.length z.fst.extra ≤ (9223372036854775807 : Nat)) && decide (z.snd ≤ List.length
  z.fst.extra) && true then bif decide (F.extrasFault (List.drop z.snd z.fst.extra) = (0 : Int)) then some ((vI (0 : Int)), []) else some ((vI (F.extrasFault (List.drop
  z.snd z.fst.extra))), []) else none)) !ByteArray.toList e.key == ByteArray.toList (ByteArray.mk (Array.mk [])) := by kernel_rfl

def encRchE1 (e : Ent) (t : Int) : List AV := [.agg (eEnt e), vI t]

def encRchE (a : Ent × Int) : List AV := encRchE1 a.1 a.2

theorem encRchE_inj (a a' : Ent × Int) (h : encRchE a = encRchE a') : a = a' := by
  simp only [encRchE, encRchE1] at h
  try simp [strs_inj, ents_inj, eEnt_iff, eLst_iff] at h
  grind

theorem unRchE (e : Ent) (t : Int) : unenc encRchE ([AV.agg [(vS e.uri), (vI e.milli), (vB e.brk), (vI e.date), (vS e.key), (vB e.gap), AV.sl (List.map eStr e.extra)], (vI t)]) = some (e, t) := unenc_of encRchE_inj (e, t) rfl

theorem unRchEw (e_uri : ByteArray) (e_milli : Int) (e_brk : Bool) (e_date : Int) (e_key : ByteArray) (e_gap : Bool) (e_extra : List ByteArray) (t : Int) : unenc encRchE ([AV.agg [(vS e_uri), (vI e_milli), (vB e_brk), (vI e_date), (vS e_key), (vB e_gap), AV.sl (List.map eStr e_extra)], (vI t)]) = some ((Ent.mk e_uri e_milli e_brk e_date e_key e_gap e_extra), t) := unenc_of encRchE_inj ((Ent.mk e_uri e_milli e_brk e_date e_key e_gap e_extra), t) rfl

def resRchE1 (e : Ent) (t : Int) : AV × Heap := (vI (F.entryFault e t), [])

def preRchE1 (e : Ent) (t : Int) : Bool := true

noncomputable def oRchE : Orc := orc 31 true encRchE (fun a => preRchE1 a.1 a.2) fun a => resRchE1 a.1 a.2

theorem okRchE : OrcOK Tryz.prog noG oRchE := by
  refine mk_ok Tryz.f31 (keep := false) (by kernel_rfl) (by kernel_rfl) enRchE_ok mixed (one_loop (x0 := loopN Tryz.f31 0) (by kernel_rfl) (lpo_ok ?_)) (by first | exact fun _ _ => ⟨rfl, rfl⟩ | (intro h; cases h)) ?_
  · rintro ⟨e, k⟩ hp
    exact lpRchE_ok e k hp
  rintro ⟨e, t⟩ hpre hok
  show (runF enRchE false _ (encRchE1 _ _)).val = some (resRchE1 _ _)
  unfold encRchE1 resRchE1
  rw [evRchE]
  obtain ⟨hm, hx, _⟩ := ent_bounds (hok _ (List.mem_cons_self ..))
  have hu : F.uriFault e.uri = 0 ∨ F.uriFault e.uri = 3 := by unfold F.uriFault; split <;> simp
  simp only [unIsUri, unWithin, unRNm, unHasPre, unPrn, preIsUri1, preWithin1, preRNm1, preHasPre1, prePrn1, unstRchE, unstRchE0, prlRchE, outRchE, etaEnt, etaLst, Option.bind_some, List.length_map, unStrs, unInts, unBools, unEnts, unItms, unTrns, cond_true, cond_false, Bool.and_true, Bool.true_and, F.entryFault, F.seq, hx, F.within_eq, List.drop_zero, Nat.zero_le, decide_true]
  cases h1 : F.out e.milli 1 3600000
  · have : IntKind.i64.wrap (Int.tdiv (IntKind.i64.wrap (e.milli + 500)) 1000) = (e.milli + 500) / 1000 := by
      simp [F.out] at h1
      rw [wrap_id (n := e.milli + 500) (by omega) (by omega), tdiv_nn (by omega), wrap_id (by omega) (by omega)]
    rw [this]
    simp only [Bool.cond_eq_ite]
    grind
  · simp only [Bool.cond_eq_ite]
    grind

def stChk (l : Lst) (k : Nat) : St := ⟨[(28, vI k), (27, vI l.entries.length), (26, .sl (l.entries.map eEnt)), (1, .ptr 1 0 0)], [(1, ⟨true, 0, 0, [eLst l]⟩)]⟩

def stChk1 (a : Lst × Nat) : St := stChk a.1 a.2

theorem stChk_inj (a a' : Lst × Nat) (h : stChk1 a = stChk1 a') : a = a' := by
  simp only [stChk1, stChk] at h
  try simp [strs_inj, ents_inj, eEnt_iff, eLst_iff] at h
  grind

theorem unstChk (l : Lst) (k : Nat) : unenc stChk1 (St.mk [(28, (vI (↑k : Int))), (27, (vI (↑(List.length l.entries) : Int))), (26, AV.sl (List.map eEnt l.entries)), (1, .ptr 1 0 0)] [(1, Blk.mk true 0 0 [[(vI l.target),
  (vI l.first), (vI l.breaks), AV.sl (List.map eEnt l.entries), (vB l.ended)]])]) = some (l, k) := unenc_of stChk_inj (l, k) rfl

theorem unstChk0 (l : Lst)  : unenc stChk1 (St.mk [(28, (vI (0 : Int))), (27, (vI (↑(List.length l.entries) : Int))), (26, AV.sl (List.map eEnt l.entries)), (1, .ptr 1 0 0)] [(1, Blk.mk true 0 0 [[(vI l.target), (vI
  l.first), (vI l.breaks), AV.sl (List.map eEnt l.entries), (vB l.ended)]])]) = some (l, 0) := unenc_of stChk_inj (l, 0) rfl

def outChk (l : Lst) (k : Nat) : T (Ex × St) := .ifB (decide (F.entsFault l.target (l.entries.drop k) = 0)) (.ret (.exit 1, ⟨[], []⟩)) (.ret (.ret, ⟨[(2, vI (F.entsFault l.target (l.entries.drop k)))], []⟩))

noncomputable def prlChk (l : Lst) (k : Nat) : Bool := decide (l.entries.length ≤ 9223372036854775807) && decide (k ≤ l.entries.length)

noncomputable def lpChk : Nat × (St → T (Ex × St)) := (6, lpo [28, 27, 26, 1] [1] stChk1 (fun a => prlChk a.1 a.2) fun a => outChk a.1 a.2)

noncomputable def enChk : Env := envH ty noG lks [oOut, oEntF] [] [] [lpChk]

theorem enChk_ok : EnvOK Tryz.prog enChk := by
  refine envH_ok lks_ok ty_ok ?_ ?_
  · simp only [List.forall_mem_cons]
    exact ⟨okOut, okEntF, by simp⟩
  · simp

theorem evChkL (l : Lst) (k : Nat) : ((exec enChk (loopN Tryz.f8 0) (stChk l k)).bind (lessX ([28, 27, 26, 1], [1]) ([], []) ([2], []))).val =
  bif decide ((↑k : Int) < (↑(List.length l.entries) : Int)) then Option.bind (unenc (List.map eEnt) (List.map eEnt l.entries)) fun (z : List Ent) => bif decide (k <
  List.length z) then Option.bind (unenc encEntF [AV.agg [(vS (List.getD z k (Ent.mk (ByteArray.mk (Array.mk [])) (0 : Int) false (0 : Int) (ByteArray.mk (Array.mk []))
  false [])).uri), (vI (List.getD z k (Ent.mk (ByteArray.mk (Array.mk [])) (0 : Int) false (0 : Int) (ByteArray.mk (Array.mk [])) false [])).milli), (vB (List.getD z k
  (Ent.mk (ByteArray.mk (Array.mk [])) (0 : Int) false (0 : Int) (ByteArray.mk (Array.mk [])) false [])).brk), (vI (List.getD z k (Ent.mk (ByteArray.mk (Array.mk [])) (0 :
  Int) false (0 : Int) (ByteArray.mk (Array.mk [])) false [])).date), (vS (List.getD z k (Ent.mk (ByteArray.mk (Array.mk [])) (0 : Int) false (0 : Int) (ByteArray.mk
  (Array.mk [])) false [])).key), (vB (List.getD z k (Ent.mk (ByteArray.mk (Array.mk [])) (0 : Int) false (0 : Int) (ByteArray.mk (Array.mk [])) false [])).gap), AV.sl
  (List.map eStr (List.getD z k (Ent.mk (ByteArray.mk (Array.mk [])) (0 : Int) false (0 : Int) (ByteArray.mk (Array.mk [])) false [])).extra)], (vI l.target)]) fun (z : Ent
  × Int) => bif F.entryFault z.fst z.snd != (0 : Int) then some (Ex.ret, St.mk [(2, (vI (F.entryFault z.fst z.snd)))] []) else some (Ex.normal, St.mk [(28, (vI (IntKind.wrap
  IntKind.i64 ((↑k : Int) + (1 : Int))))), (27, (vI (↑(List.length l.entries) : Int))), (26, AV.sl (List.map eEnt l.entries)), (1, .ptr 1 0 0)] [(1, Blk.mk true 0 0 [[(vI
  l.target), (vI l.first), (vI l.breaks), AV.sl (List.map eEnt l.entries), (vB l.ended)]])]) else none else some (Ex.exit (1 : Nat), St.mk [] []) := by kernel_rfl

theorem lpChk_ok (l : Lst) (k : Nat) (hp : prlChk l k = true) : ∀ ex s', (outChk l k).val = some (ex, s') → LoopOK enChk (loopN Tryz.f8 0) (stChk l k) ex s' := by
  simp only [prlChk, Bool.and_eq_true, decide_eq_true_eq] at hp
  refine loop_code (xs := l.entries) (st := stChk l) (g := fun e => F.entryFault e l.target) (o := fun c => (.ret, ⟨[(2, vI c)], []⟩)) (n := ([28, 27, 26, 1], [1])) (e := ([], [])) (r := ([2], [])) ?_ ⟨by simp, rfl⟩ (fun _ => ⟨by simp, rfl⟩) (fun _ => rfl) ?_ k hp.2
  · rw [evChkL]; simp
  · intro k y hy
    have hlt := lt_at hy
    rw [evChkL]
    simp only [unOut, unEntF, unEntFw, preOut1, preEntF1, unstChk, unstChk0, prlChk, outChk, etaEnt, etaLst, Option.bind_some, List.length_map, unStrs, unInts, unBools, unEnts, unItms, unTrns, cond_true, cond_false, Bool.and_true, Bool.true_and, cast_lt hlt, decide_eq_true hlt, next_at hlt hp.1, getD_at hy, stChk, eEnt, eLst]
    grind

theorem evChk (l : Lst) : (runF enChk false Tryz.f8 [.agg (eLst l)]).val =
  Option.bind (unenc encOut [(vI l.target), (vI (1 : Int)), (vI (3600 : Int))]) fun (z : Int × Int × Int) => bif !F.out z.fst z.snd.fst z.snd.snd then Option.bind (unenc
  encOut [(vI l.first), (vI (0 : Int)), (vI (999999999999000 : Int))]) fun (z_1 : Int × Int × Int) => bif !bif F.out z.fst z.snd.fst z.snd.snd then true else F.out z_1.fst
  z_1.snd.fst z_1.snd.snd then Option.bind (unenc encOut [(vI l.breaks), (vI (0 : Int)), (vI (1000000000000000 : Int))]) fun (z_2 : Int × Int × Int) => bif bif bif F.out
  z.fst z.snd.fst z.snd.snd then true else F.out z_1.fst z_1.snd.fst z_1.snd.snd then true else F.out z_2.fst z_2.snd.fst z_2.snd.snd then some ((vI (1 : Int)), []) else bif
  decide ((1000 : Int) < (↑(List.length (List.map eEnt l.entries)) : Int)) then some ((vI (2 : Int)), []) else Option.bind (unenc stChk1 (St.mk [(28, (vI (0 : Int))), (27,
  (vI (↑(List.length (List.map eEnt l.entries)) : Int))), (26, AV.sl (List.map eEnt l.entries)), (1, .ptr 1 0 0)] [(1, Blk.mk true 0 0 [[(vI l.target), (vI l.first), (vI
  l.breaks), AV.sl (List.map eEnt l.entries), (vB l.ended)]])])) fun (z : Lst × Nat) => bif decide (List.length z.fst.entries ≤ (9223372036854775807 : Nat)) && decide (z.snd
  ≤ List.length z.fst.entries) && true then bif decide (F.entsFault z.fst.target (List.drop z.snd z.fst.entries) = (0 : Int)) then some ((vI (0 : Int)), []) else some ((vI
  (F.entsFault z.fst.target (List.drop z.snd z.fst.entries))), []) else none else some ((vI (1 : Int)), []) else some ((vI (1 : Int)), []) := by kernel_rfl

def encChk1 (l : Lst) : List AV := [.agg (eLst l)]

def encChk (a : Lst) : List AV := encChk1 a

theorem encChk_inj (a a' : Lst) (h : encChk a = encChk a') : a = a' := by
  simp only [encChk, encChk1] at h
  try simp [strs_inj, ents_inj, eEnt_iff, eLst_iff] at h
  grind

theorem unChk (l : Lst) : unenc encChk ([AV.agg [(vI l.target), (vI l.first), (vI l.breaks), AV.sl (List.map eEnt l.entries), (vB l.ended)]]) = some (l) := unenc_of encChk_inj (l) rfl

theorem unChkw (l_target : Int) (l_first : Int) (l_breaks : Int) (l_entries : List Ent) (l_ended : Bool) : unenc encChk ([AV.agg [(vI l_target), (vI l_first), (vI l_breaks), AV.sl (List.map eEnt l_entries), (vB l_ended)]]) = some ((Lst.mk l_target l_first l_breaks l_entries l_ended)) := unenc_of encChk_inj ((Lst.mk l_target l_first l_breaks l_entries l_ended)) rfl

def resChk1 (l : Lst) : AV × Heap := (vI (F.check l), [])

def preChk1 (l : Lst) : Bool := true

noncomputable def oChk : Orc := orc 8 true encChk (fun a => preChk1 a) fun a => resChk1 a

theorem okChk : OrcOK Tryz.prog noG oChk := by
  refine mk_ok Tryz.f8 (keep := false) (by kernel_rfl) (by kernel_rfl) enChk_ok mixed (one_loop (x0 := loopN Tryz.f8 0) (by kernel_rfl) (lpo_ok ?_)) (by first | exact fun _ _ => ⟨rfl, rfl⟩ | (intro h; cases h)) ?_
  · rintro ⟨l, k⟩ hp
    exact lpChk_ok l k hp
  rintro l hpre hok
  show (runF enChk false _ (encChk1 _)).val = some (resChk1 _)
  unfold encChk1 resChk1
  rw [evChk]
  have hx : l.entries.length ≤ 9223372036854775807 := by
    have h := okA_agg (hok _ (List.mem_cons_self ..))
    simp only [eLst, List.forall_mem_cons] at h
    simpa using (okA_sl h.2.2.2.1).1
  simp only [unOut, unEntF, unEntFw, preOut1, preEntF1, unstChk, unstChk0, prlChk, outChk, etaEnt, etaLst, Option.bind_some, List.length_map, unStrs, unInts, unBools, unEnts, unItms, unTrns, cond_true, cond_false, Bool.and_true, Bool.true_and, F.check, hx, List.drop_zero, Nat.zero_le, decide_true]
  simp only [Bool.cond_eq_ite]
  grind

def stRChk (l : Lst) (k : Nat) : St := ⟨[(3, vI k), (1, .ptr 1 0 0)], [(1, ⟨true, 0, 0, [eLst l]⟩)]⟩

def stRChk1 (a : Lst × Nat) : St := stRChk a.1 a.2

theorem stRChk_inj (a a' : Lst × Nat) (h : stRChk1 a = stRChk1 a') : a = a' := by
  simp only [stRChk1, stRChk] at h
  try simp [strs_inj, ents_inj, eEnt_iff, eLst_iff] at h
  grind

theorem unstRChk (l : Lst) (k : Nat) : unenc stRChk1 (St.mk [(3, (vI (↑k : Int))), (1, .ptr 1 0 0)] [(1, Blk.mk true 0 0 [[(vI l.target), (vI l.first), (vI l.breaks), AV.sl (List.map eEnt l.entries), (vB l.ended)]])]) = some (l, k) := unenc_of stRChk_inj (l, k) rfl

theorem unstRChk0 (l : Lst)  : unenc stRChk1 (St.mk [(3, (vI (0 : Int))), (1, .ptr 1 0 0)] [(1, Blk.mk true 0 0 [[(vI l.target), (vI l.first), (vI l.breaks), AV.sl (List.map eEnt l.entries), (vB l.ended)]])]) = some (l, 0) := unenc_of stRChk_inj (l, 0) rfl

def outRChk (l : Lst) (k : Nat) : T (Ex × St) := .ifB (decide (F.entsFault l.target (l.entries.drop k) = 0)) (.ret (.exit 0, ⟨[], []⟩)) (.ret (.ret, ⟨[(2, vI (F.entsFault l.target (l.entries.drop k)))], []⟩))

noncomputable def prlRChk (l : Lst) (k : Nat) : Bool := decide (l.entries.length ≤ 9223372036854775807) && decide (k ≤ l.entries.length)

noncomputable def lpRChk : Nat × (St → T (Ex × St)) := (6, lpo [3, 1] [1] stRChk1 (fun a => prlRChk a.1 a.2) fun a => outRChk a.1 a.2)

noncomputable def enRChk : Env := envH ty noG lks [oWithin, oRchE] [] [] [lpRChk]

theorem enRChk_ok : EnvOK Tryz.prog enRChk := by
  refine envH_ok lks_ok ty_ok ?_ ?_
  · simp only [List.forall_mem_cons]
    exact ⟨okWithin, okRchE, by simp⟩
  · simp

theorem evRChkL (l : Lst) (k : Nat) : ((exec enRChk (loopN Tryz.f9 0) (stRChk l k)).bind (lessX ([3, 1], [1]) ([], []) ([2], []))).val =
  bif decide ((↑k : Int) < (↑(List.length (List.map eEnt l.entries)) : Int)) then Option.bind (unenc (List.map eEnt) (List.map eEnt l.entries)) fun (z : List Ent) => bif
  decide (k < List.length z) then Option.bind (unenc encRchE [AV.agg [(vS (List.getD z k (Ent.mk (ByteArray.mk (Array.mk [])) (0 : Int) false (0 : Int) (ByteArray.mk
  (Array.mk [])) false [])).uri), (vI (List.getD z k (Ent.mk (ByteArray.mk (Array.mk [])) (0 : Int) false (0 : Int) (ByteArray.mk (Array.mk [])) false [])).milli), (vB
  (List.getD z k (Ent.mk (ByteArray.mk (Array.mk [])) (0 : Int) false (0 : Int) (ByteArray.mk (Array.mk [])) false [])).brk), (vI (List.getD z k (Ent.mk (ByteArray.mk
  (Array.mk [])) (0 : Int) false (0 : Int) (ByteArray.mk (Array.mk [])) false [])).date), (vS (List.getD z k (Ent.mk (ByteArray.mk (Array.mk [])) (0 : Int) false (0 : Int)
  (ByteArray.mk (Array.mk [])) false [])).key), (vB (List.getD z k (Ent.mk (ByteArray.mk (Array.mk [])) (0 : Int) false (0 : Int) (ByteArray.mk (Array.mk [])) false
  [])).gap), AV.sl (List.map eStr (List.getD z k (Ent.mk (ByteArray.mk (Array.mk [])) (0 : Int) false (0 : Int) (ByteArray.mk (Array.mk [])) false [])).extra)], (vI
  l.target)]) fun (z : Ent × Int) => bif F.entryFault z.fst z.snd != (0 : Int) then some (Ex.ret, St.mk [(2, (vI (F.entryFault z.fst z.snd)))] []) else some (Ex.normal,
  St.mk [(3, (vI (IntKind.wrap IntKind.i64 ((↑k : Int) + (1 : Int))))), (1, .ptr 1 0 0)] [(1, Blk.mk true 0 0 [[(vI l.target), (vI l.first), (vI l.breaks), AV.sl (List.map
  eEnt l.entries), (vB l.ended)]])]) else none else some (Ex.exit (0 : Nat), St.mk [] []) := by kernel_rfl

theorem lpRChk_ok (l : Lst) (k : Nat) (hp : prlRChk l k = true) : ∀ ex s', (outRChk l k).val = some (ex, s') → LoopOK enRChk (loopN Tryz.f9 0) (stRChk l k) ex s' := by
  simp only [prlRChk, Bool.and_eq_true, decide_eq_true_eq] at hp
  refine loop_code (xs := l.entries) (st := stRChk l) (g := fun e => F.entryFault e l.target) (o := fun c => (.ret, ⟨[(2, vI c)], []⟩)) (n := ([3, 1], [1])) (e := ([], [])) (r := ([2], [])) ?_ ⟨by simp, rfl⟩ (fun _ => ⟨by simp, rfl⟩) (fun _ => rfl) ?_ k hp.2
  · rw [evRChkL]; simp
  · intro k y hy
    have hlt := lt_at hy
    rw [evRChkL]
    simp only [unWithin, unRchE, unRchEw, preWithin1, preRchE1, unstRChk, unstRChk0, prlRChk, outRChk, etaEnt, etaLst, Option.bind_some, List.length_map, unStrs, unInts, unBools, unEnts, unItms, unTrns, cond_true, cond_false, Bool.and_true, Bool.true_and, cast_lt hlt, decide_eq_true hlt, next_at hlt hp.1, getD_at hy, stRChk, eEnt, eLst]
    grind

theorem evRChk (l : Lst) : (runF enRChk false Tryz.f9 [.agg (eLst l)]).val =
  Option.bind (unenc encWithin [(vI l.target), (vI (1 : Int)), (vI (3600 : Int))]) fun (z : Int × Int × Int) => bif !!F.within z.fst z.snd.fst z.snd.snd then Option.bind
  (unenc encWithin [(vI l.first), (vI (0 : Int)), (vI (999999999999000 : Int))]) fun (z_1 : Int × Int × Int) => bif !bif !F.within z.fst z.snd.fst z.snd.snd then true else
  !F.within z_1.fst z_1.snd.fst z_1.snd.snd then Option.bind (unenc encWithin [(vI l.breaks), (vI (0 : Int)), (vI (1000000000000000 : Int))]) fun (z_2 : Int × Int × Int) =>
  bif bif bif !F.within z.fst z.snd.fst z.snd.snd then true else !F.within z_1.fst z_1.snd.fst z_1.snd.snd then true else !F.within z_2.fst z_2.snd.fst z_2.snd.snd then some
  ((vI (1 : Int)), []) else bif decide ((1000 : Int) < (↑(List.length (List.map eEnt l.entries)) : Int)) then some ((vI (2 : Int)), []) else Option.bind (unenc stRChk1
  (St.mk [(3, (vI (0 : Int))), (1, .ptr 1 0 0)] [(1, Blk.mk true 0 0 [[(vI l.target), (vI l.first), (vI l.breaks), AV.sl (List.map eEnt l.entries), (vB l.ended)]])])) fun (z
  : Lst × Nat) => bif decide (List.length z.fst.entries ≤ (9223372036854775807 : Nat)) && decide (z.snd ≤ List.length z.fst.entries) && true then bif decide (F.entsFault
  z.fst.target (List.drop z.snd z.fst.entries) = (0 : Int)) then some ((vI (0 : Int)), []) else some ((vI (F.entsFault z.fst.target (List.drop z.snd z.fst.entries))), [])
  else none else bif !bif !F.within z.fst z.snd.fst z.snd.snd then true else !F.within z_1.fst z_1.snd.fst z_1.snd.snd then none else some ((vI (1 : Int)), []) else bif
  !!F.within z.fst z.snd.fst z.snd.snd then none else some ((vI (1 : Int)), []) := by kernel_rfl

def encRChk1 (l : Lst) : List AV := [.agg (eLst l)]

def encRChk (a : Lst) : List AV := encRChk1 a

theorem encRChk_inj (a a' : Lst) (h : encRChk a = encRChk a') : a = a' := by
  simp only [encRChk, encRChk1] at h
  try simp [strs_inj, ents_inj, eEnt_iff, eLst_iff] at h
  grind

theorem unRChk (l : Lst) : unenc encRChk ([AV.agg [(vI l.target), (vI l.first), (vI l.breaks), AV.sl (List.map eEnt l.entries), (vB l.ended)]]) = some (l) := unenc_of encRChk_inj (l) rfl

theorem unRChkw (l_target : Int) (l_first : Int) (l_breaks : Int) (l_entries : List Ent) (l_ended : Bool) : unenc encRChk ([AV.agg [(vI l_target), (vI l_first), (vI l_breaks), AV.sl (List.map eEnt l_entries), (vB l_ended)]]) = some ((Lst.mk l_target l_first l_breaks l_entries l_ended)) := unenc_of encRChk_inj ((Lst.mk l_target l_first l_breaks l_entries l_ended)) rfl

def resRChk1 (l : Lst) : AV × Heap := (vI (F.check l), [])

def preRChk1 (l : Lst) : Bool := true

noncomputable def oRChk : Orc := orc 9 true encRChk (fun a => preRChk1 a) fun a => resRChk1 a

theorem okRChk : OrcOK Tryz.prog noG oRChk := by
  refine mk_ok Tryz.f9 (keep := false) (by kernel_rfl) (by kernel_rfl) enRChk_ok mixed (one_loop (x0 := loopN Tryz.f9 0) (by kernel_rfl) (lpo_ok ?_)) (by first | exact fun _ _ => ⟨rfl, rfl⟩ | (intro h; cases h)) ?_
  · rintro ⟨l, k⟩ hp
    exact lpRChk_ok l k hp
  rintro l hpre hok
  show (runF enRChk false _ (encRChk1 _)).val = some (resRChk1 _)
  unfold encRChk1 resRChk1
  rw [evRChk]
  have hx : l.entries.length ≤ 9223372036854775807 := by
    have h := okA_agg (hok _ (List.mem_cons_self ..))
    simp only [eLst, List.forall_mem_cons] at h
    simpa using (okA_sl h.2.2.2.1).1
  simp only [unWithin, unRchE, unRchEw, preWithin1, preRchE1, unstRChk, unstRChk0, prlRChk, outRChk, etaEnt, etaLst, Option.bind_some, List.length_map, unStrs, unInts, unBools, unEnts, unItms, unTrns, cond_true, cond_false, Bool.and_true, Bool.true_and, F.check, hx, List.drop_zero, Nat.zero_le, decide_true, F.within_eq]
  simp only [Bool.cond_eq_ite]
  grind

end M

theorem F.fold_app {α : Type} : ∀ (l acc : List α), l.foldl (fun a y => a ++ [y]) acc = acc ++ l
  | [], acc => by simp
  | y :: l, acc => by rw [List.foldl_cons, F.fold_app l]; simp

def F.lenF (a : Int) (l : List Ent) : Int := l.foldl (fun a e => IntKind.i64.wrap (a + e.milli)) a

namespace M

theorem all_strs (xs : List ByteArray) : ((xs.map eStr).all fun r => Nat.beq (List.length r) 1) = true := by simp [eStr]

theorem all_ents (xs : List Ent) : ((xs.map eEnt).all fun r => Nat.beq (List.length r) 7) = true := by simp [eEnt]

theorem evCln0 : (runF en0 false Tryz.f88 [.nz true []]).val =
  some (AV.sl [], []) := by kernel_rfl

theorem evCln1 (xs : List ByteArray) : (runF en0 false Tryz.f88 [.nz false (xs.map eStr)]).val =
  bif Nat.ble (((0 : Nat) + List.length (List.map eStr xs)) * (16 : Nat)) (140737488355328 : Nat) && List.all (List.map eStr xs) fun (r : Row) => Nat.beq (List.length r)
  (TI.mk false (1 : Nat) [] [AV.e0] (9 : Nat) (1 : Nat) (16 : Nat) [(vS (ByteArray.mk (Array.mk [])))] none (4 : Nat) []).esize then some (AV.sl (List.map eStr xs), []) else
  none := by kernel_rfl

def encCln1 (xs : List ByteArray) : List AV := [.sl (xs.map eStr)]

def encCln (a : (List ByteArray)) : List AV := encCln1 a

theorem encCln_inj (a a' : (List ByteArray)) (h : encCln a = encCln a') : a = a' := by
  simp only [encCln, encCln1] at h
  try simp [strs_inj, ents_inj, eEnt_iff, eLst_iff] at h
  grind

theorem unCln (xs : List ByteArray) : unenc encCln ([AV.sl (List.map eStr xs)]) = some (xs) := unenc_of encCln_inj (xs) rfl

def resCln1 (xs : List ByteArray) : AV × Heap := (.sl (xs.map eStr), [])

def preCln1 (xs : List ByteArray) : Bool := decide (xs.length * 16 ≤ 140737488355328)

noncomputable def oCln : Orc := orc 88 false encCln (fun a => preCln1 a) fun a => resCln1 a

theorem okCln : OrcOK Tryz.prog noG oCln := by
  refine orc_ok ⟨Tryz.f88, by kernel_rfl, by kernel_rfl, by kernel_rfl⟩ (fun xs hp _ => ?_) (by intro h; cases h)
  simp only [preCln1, decide_eq_true_eq] at hp
  have hb : Nat.ble (xs.length * 16) 140737488355328 = true := ble_t (by omega)
  show SpecP _ _ _ [.sl (xs.map eStr)] (.sl (xs.map eStr)) []
  refine SpecP.nil (fun e => ?_) ?_
  · have : xs = [] := by simpa using e
    subst this
    exact runF_sound (E := en0) en0_ok mixed (fn := Tryz.f88) (by kernel_rfl) (no_loops (by kernel_rfl)) (keep := false) evCln0
  · refine runF_sound (E := en0) en0_ok mixed (fn := Tryz.f88) (by kernel_rfl) (no_loops (by kernel_rfl)) (keep := false) ?_
    rw [evCln1]
    simp only [List.length_map, Nat.zero_add, hb, all_strs, Bool.and_true, cond_true, List.nil_append]

noncomputable def enCpE : Env := envH ty noG lks [oCln] [] [] []

theorem enCpE_ok : EnvOK Tryz.prog enCpE := by
  refine envH_ok lks_ok ty_ok ?_ ?_
  · simp only [List.forall_mem_cons]
    exact ⟨okCln, by simp⟩
  · simp

theorem evCpE (e : Ent) : (runF enCpE false Tryz.f64 [.agg (eEnt e)]).val =
  Option.bind (unenc encCln [AV.sl (List.map eStr e.extra)]) fun (z : List ByteArray) => bif decide (List.length z * (16 : Nat) ≤ (140737488355328 : Nat)) then some (AV.agg
  [(vS e.uri), (vI e.milli), (vB e.brk), (vI e.date), (vS e.key), (vB e.gap), AV.sl (List.map eStr z)], []) else none := by kernel_rfl

def encCpE1 (e : Ent) : List AV := [.agg (eEnt e)]

def encCpE (a : Ent) : List AV := encCpE1 a

theorem encCpE_inj (a a' : Ent) (h : encCpE a = encCpE a') : a = a' := by
  simp only [encCpE, encCpE1] at h
  try simp [strs_inj, ents_inj, eEnt_iff, eLst_iff] at h
  grind

theorem unCpE (e : Ent) : unenc encCpE ([AV.agg [(vS e.uri), (vI e.milli), (vB e.brk), (vI e.date), (vS e.key), (vB e.gap), AV.sl (List.map eStr e.extra)]]) = some (e) := unenc_of encCpE_inj (e) rfl

theorem unCpEw (e_uri : ByteArray) (e_milli : Int) (e_brk : Bool) (e_date : Int) (e_key : ByteArray) (e_gap : Bool) (e_extra : List ByteArray) : unenc encCpE ([AV.agg [(vS e_uri), (vI e_milli), (vB e_brk), (vI e_date), (vS e_key), (vB e_gap), AV.sl (List.map eStr e_extra)]]) = some ((Ent.mk e_uri e_milli e_brk e_date e_key e_gap e_extra)) := unenc_of encCpE_inj ((Ent.mk e_uri e_milli e_brk e_date e_key e_gap e_extra)) rfl

def resCpE1 (e : Ent) : AV × Heap := (.agg (eEnt e), [])

def preCpE1 (e : Ent) : Bool := decide (e.extra.length * 16 ≤ 140737488355328)

noncomputable def oCpE : Orc := orc 64 false encCpE (fun a => preCpE1 a) fun a => resCpE1 a

theorem okCpE : OrcOK Tryz.prog noG oCpE := by
  refine mk_ok Tryz.f64 (keep := false) (by kernel_rfl) (by kernel_rfl) enCpE_ok mixed (no_loops (by kernel_rfl)) (by first | exact fun _ _ => ⟨rfl, rfl⟩ | (intro h; cases h)) ?_
  rintro e hpre hok
  show (runF enCpE false _ (encCpE1 _)).val = some (resCpE1 _)
  unfold encCpE1 resCpE1
  rw [evCpE]
  simp only [preCpE1] at hpre
  simp only [unCln, preCln1, etaEnt, etaLst, Option.bind_some, List.length_map, unStrs, unInts, unBools, unEnts, unItms, unTrns, cond_true, cond_false, Bool.and_true, Bool.true_and, hpre, eEnt]

def stLen (es : List Ent) (a : Int) (k : Nat) : St := ⟨[(9, vI k), (8, vI es.length), (7, .sl (es.map eEnt)), (3, vI a)], []⟩

def stLen1 (a : (List Ent) × Int × Nat) : St := stLen a.1 a.2.1 a.2.2

theorem stLen_inj (a a' : (List Ent) × Int × Nat) (h : stLen1 a = stLen1 a') : a = a' := by
  simp only [stLen1, stLen] at h
  try simp [strs_inj, ents_inj, eEnt_iff, eLst_iff] at h
  grind

theorem unstLen (es : List Ent) (a : Int) (k : Nat) : unenc stLen1 (St.mk [(9, (vI (↑k : Int))), (8, (vI (↑(List.length es) : Int))), (7, AV.sl (List.map eEnt es)), (3, (vI a))] []) = some (es, a, k) := unenc_of stLen_inj (es, a, k) rfl

theorem unstLen0 (es : List Ent)  : unenc stLen1 (St.mk [(9, (vI (0 : Int))), (8, (vI (↑(List.length es) : Int))), (7, AV.sl (List.map eEnt es)), (3, (vI (0 : Int)))] []) = some (es, 0, 0) := unenc_of stLen_inj (es, 0, 0) rfl

def outLen (es : List Ent) (a : Int) (k : Nat) : T (Ex × St) := .ret (.exit 0, ⟨[(3, vI (F.lenF a (es.drop k)))], []⟩)

noncomputable def prlLen (es : List Ent) (a : Int) (k : Nat) : Bool := decide (es.length ≤ 9223372036854775807) && decide (k ≤ es.length)

noncomputable def lpLen : Nat × (St → T (Ex × St)) := (3, lpo [9, 8, 7, 3] [] stLen1 (fun a => prlLen a.1 a.2.1 a.2.2) fun a => outLen a.1 a.2.1 a.2.2)

noncomputable def enLen : Env := envH ty noG lks [] [] [] [lpLen]

theorem enLen_ok : EnvOK Tryz.prog enLen := by
  refine envH_ok lks_ok ty_ok ?_ ?_
  · simp
  · simp

theorem evLenL (es : List Ent) (a : Int) (k : Nat) : ((exec enLen (loopN Tryz.f32 0) (stLen es a k)).bind (lessX ([9, 8, 7, 3], []) ([3], []) ([], []))).val =
  bif decide ((↑k : Int) < (↑(List.length es) : Int)) then Option.bind (unenc (List.map eEnt) (List.map eEnt es)) fun (z : List Ent) => bif decide (k < List.length z) then
  some (Ex.normal, St.mk [(9, (vI (IntKind.wrap IntKind.i64 ((↑k : Int) + (1 : Int))))), (8, (vI (↑(List.length es) : Int))), (7, AV.sl (List.map eEnt es)), (3, (vI
  (IntKind.wrap IntKind.i64 (a + (List.getD z k (Ent.mk (ByteArray.mk (Array.mk [])) (0 : Int) false (0 : Int) (ByteArray.mk (Array.mk [])) false [])).milli))))] []) else
  none else some (Ex.exit (0 : Nat), St.mk [(3, (vI a))] []) := by kernel_rfl

theorem lpLen_ok (es : List Ent) (a : Int) (k : Nat) (hp : prlLen es a k = true) : ∀ ex s', (outLen es a k).val = some (ex, s') → LoopOK enLen (loopN Tryz.f32 0) (stLen es a k) ex s' := by
  simp only [prlLen, Bool.and_eq_true, decide_eq_true_eq] at hp
  refine loop_fold (xs := es) (st := stLen es) (f := fun a e => IntKind.i64.wrap (a + e.milli)) (fin := fun a => (.exit 0, ⟨[(3, vI a)], []⟩)) (I := fun _ _ => True) (n := ([9, 8, 7, 3], [])) (e := ([3], [])) (r := ([], [])) ?_ (fun _ => ⟨by simp, rfl⟩) (fun _ _ => rfl) ?_ a k hp.2 trivial
  · intro a _
    rw [evLenL]; simp
  · intro a k y hy _
    have hlt := lt_at hy
    rw [evLenL]
    simp only [unstLen, unstLen0, prlLen, outLen, etaEnt, etaLst, Option.bind_some, List.length_map, unStrs, unInts, unBools, unEnts, unItms, unTrns, cond_true, cond_false, Bool.and_true, Bool.true_and, cast_lt hlt, decide_eq_true hlt, next_at hlt hp.1, getD_at hy, stLen, eEnt]
    simp

theorem lst_len {l : Lst} (h : OkA (.agg (eLst l))) : l.entries.length ≤ 9223372036854775807 := by
  have h := okA_agg h
  simp only [eLst, List.forall_mem_cons] at h
  simpa using (okA_sl h.2.2.2.1).1

theorem evLen (l : Lst) : (runF enLen false Tryz.f32 [.agg (eLst l)]).val =
  Option.bind (unenc stLen1 (St.mk [(9, (vI (0 : Int))), (8, (vI (↑(List.length (List.map eEnt l.entries)) : Int))), (7, AV.sl (List.map eEnt l.entries)), (3, (vI (0 :
  Int)))] [])) fun (z : List Ent × Int × Nat) => bif decide (List.length z.fst ≤ (9223372036854775807 : Nat)) && decide (z.snd.snd ≤ List.length z.fst) && true then some
  ((vI (F.lenF z.snd.fst (List.drop z.snd.snd z.fst))), []) else none := by kernel_rfl

def encLen1 (l : Lst) : List AV := [.agg (eLst l)]

def encLen (a : Lst) : List AV := encLen1 a

theorem encLen_inj (a a' : Lst) (h : encLen a = encLen a') : a = a' := by
  simp only [encLen, encLen1] at h
  try simp [strs_inj, ents_inj, eEnt_iff, eLst_iff] at h
  grind

theorem unLen (l : Lst) : unenc encLen ([AV.agg [(vI l.target), (vI l.first), (vI l.breaks), AV.sl (List.map eEnt l.entries), (vB l.ended)]]) = some (l) := unenc_of encLen_inj (l) rfl

theorem unLenw (l_target : Int) (l_first : Int) (l_breaks : Int) (l_entries : List Ent) (l_ended : Bool) : unenc encLen ([AV.agg [(vI l_target), (vI l_first), (vI l_breaks), AV.sl (List.map eEnt l_entries), (vB l_ended)]]) = some ((Lst.mk l_target l_first l_breaks l_entries l_ended)) := unenc_of encLen_inj ((Lst.mk l_target l_first l_breaks l_entries l_ended)) rfl

def resLen1 (l : Lst) : AV × Heap := (vI (F.lenF 0 l.entries), [])

def preLen1 (l : Lst) : Bool := true

noncomputable def oLen : Orc := orc 32 true encLen (fun a => preLen1 a) fun a => resLen1 a

theorem okLen : OrcOK Tryz.prog noG oLen := by
  refine mk_ok Tryz.f32 (keep := false) (by kernel_rfl) (by kernel_rfl) enLen_ok mixed (one_loop (x0 := loopN Tryz.f32 0) (by kernel_rfl) (lpo_ok ?_)) (by first | exact fun _ _ => ⟨rfl, rfl⟩ | (intro h; cases h)) ?_
  · rintro ⟨es, a, k⟩ hp
    exact lpLen_ok es a k hp
  rintro l hpre hok
  show (runF enLen false _ (encLen1 _)).val = some (resLen1 _)
  unfold encLen1 resLen1
  rw [evLen]
  have hx := lst_len (hok _ (List.mem_cons_self ..))
  simp only [unstLen, unstLen0, prlLen, outLen, etaEnt, etaLst, Option.bind_some, List.length_map, unStrs, unInts, unBools, unEnts, unItms, unTrns, cond_true, cond_false, Bool.and_true, Bool.true_and, hx, List.drop_zero, Nat.zero_le, decide_true]

theorem evWith (l : Lst) (es : List Ent) : (runF en0 true Tryz.f37 [.agg (eLst l), .sl (es.map eEnt)]).val =
  bif Nat.ble (List.length (List.map eEnt es) * (88 : Nat)) (140737488355328 : Nat) && List.all (List.map eEnt es) fun (r : Row) => Nat.beq (List.length r) (TI.mk false (1 :
  Nat) [] [AV.e0] (50 : Nat) (7 : Nat) (88 : Nat) [(vS (ByteArray.mk (Array.mk []))), (vI (0 : Int)), (vB false), (vI (0 : Int)), (vS (ByteArray.mk (Array.mk []))), (vB
  false), AV.e0] none (4 : Nat) []).esize then some (AV.agg [(vI l.target), (vI l.first), (vI l.breaks), .own 0, (vB l.ended)], [(0, Blk.mk false 50 7 (List.map eEnt es))])
  else none := by kernel_rfl

def encWith1 (l : Lst) (es : List Ent) : List AV := [.agg (eLst l), .sl (es.map eEnt)]

def encWith (a : Lst × (List Ent)) : List AV := encWith1 a.1 a.2

theorem encWith_inj (a a' : Lst × (List Ent)) (h : encWith a = encWith a') : a = a' := by
  simp only [encWith, encWith1] at h
  try simp [strs_inj, ents_inj, eEnt_iff, eLst_iff] at h
  grind

theorem unWith (l : Lst) (es : List Ent) : unenc encWith ([AV.agg [(vI l.target), (vI l.first), (vI l.breaks), AV.sl (List.map eEnt l.entries), (vB l.ended)], AV.sl (List.map eEnt es)]) = some (l, es) := unenc_of encWith_inj (l, es) rfl

theorem unWithw (l_target : Int) (l_first : Int) (l_breaks : Int) (l_entries : List Ent) (l_ended : Bool) (es : List Ent) : unenc encWith ([AV.agg [(vI l_target), (vI l_first), (vI l_breaks), AV.sl (List.map eEnt l_entries), (vB l_ended)], AV.sl (List.map eEnt es)]) = some ((Lst.mk l_target l_first l_breaks l_entries l_ended), es) := unenc_of encWith_inj ((Lst.mk l_target l_first l_breaks l_entries l_ended), es) rfl

def resWith1 (l : Lst) (es : List Ent) : AV × Heap := (.agg [vI l.target, vI l.first, vI l.breaks, .own 0, vB l.ended], [(0, ⟨false, 50, 7, es.map eEnt⟩)])

def preWith1 (l : Lst) (es : List Ent) : Bool := decide (es.length ≤ 100000)

noncomputable def oWith : Orc := orc 37 false encWith (fun a => preWith1 a.1 a.2) fun a => resWith1 a.1 a.2

theorem okWith : OrcOK Tryz.prog noG oWith := by
  refine mk_ok Tryz.f37 (keep := true) (by kernel_rfl) (by kernel_rfl) en0_ok mixed (no_loops (by kernel_rfl)) (by first | exact fun _ _ => ⟨rfl, rfl⟩ | (intro h; cases h)) ?_
  rintro ⟨l, es⟩ hpre hok
  show (runF en0 true _ (encWith1 _ _)).val = some (resWith1 _ _)
  unfold encWith1 resWith1
  rw [evWith]
  simp only [preWith1, decide_eq_true_eq] at hpre
  have hb : Nat.ble (es.length * 88) 140737488355328 = true := ble_t (by omega)
  simp only [etaEnt, etaLst, Option.bind_some, List.length_map, unStrs, unInts, unBools, unEnts, unItms, unTrns, cond_true, cond_false, Bool.and_true, Bool.true_and, hb, all_ents, List.nil_append]

def stCpL (l : Lst) (acc : List Ent) (k : Nat) : St := ⟨[(9, vI k), (8, vI l.entries.length), (7, .sl (l.entries.map eEnt)), (3, .own 3), (2, .ptr 2 0 0), (1, .ptr 1 0 0)], [(3, ⟨false, 50, 7, acc.map eEnt⟩), (2, ⟨true, 0, 0, [[vI 0, vI 0, vI 0, .e0, vB false]]⟩), (1, ⟨true, 0, 0, [eLst l]⟩)]⟩

def stCpL1 (a : Lst × (List Ent) × Nat) : St := stCpL a.1 a.2.1 a.2.2

theorem stCpL_inj (a a' : Lst × (List Ent) × Nat) (h : stCpL1 a = stCpL1 a') : a = a' := by
  simp only [stCpL1, stCpL] at h
  try simp [strs_inj, ents_inj, eEnt_iff, eLst_iff] at h
  grind

theorem unstCpL (l : Lst) (acc : List Ent) (k : Nat) : unenc stCpL1 (St.mk [(9, (vI (↑k : Int))), (8, (vI (↑(List.length l.entries) : Int))), (7, AV.sl (List.map eEnt l.entries)), (3, .own 3), (2, .ptr 2 0 0), (1, .ptr 1 0 0)] [(3, Blk.mk
  false 50 7 (List.map eEnt acc)), (2, Blk.mk true 0 0 [[(vI (0 : Int)), (vI (0 : Int)), (vI (0 : Int)), AV.e0, (vB false)]]), (1, Blk.mk true 0 0 [[(vI l.target), (vI
  l.first), (vI l.breaks), AV.sl (List.map eEnt l.entries), (vB l.ended)]])]) = some (l, acc, k) := unenc_of stCpL_inj (l, acc, k) rfl

theorem unstCpL0 (l : Lst)  : unenc stCpL1 (St.mk [(9, (vI (0 : Int))), (8, (vI (↑(List.length l.entries) : Int))), (7, AV.sl (List.map eEnt l.entries)), (3, .own 3), (2, .ptr 2 0 0), (1, .ptr 1 0 0)] [(3, Blk.mk
  false 50 7 []), (2, Blk.mk true 0 0 [[(vI (0 : Int)), (vI (0 : Int)), (vI (0 : Int)), AV.e0, (vB false)]]), (1, Blk.mk true 0 0 [[(vI l.target), (vI l.first), (vI
  l.breaks), AV.sl (List.map eEnt l.entries), (vB l.ended)]])]) = some (l, [], 0) := unenc_of stCpL_inj (l, [], 0) rfl

def outCpL (l : Lst) (acc : List Ent) (k : Nat) : T (Ex × St) := .ret (.exit 0, ⟨[(3, .own 3), (2, .ptr 2 0 0), (1, .ptr 1 0 0)], [(3, ⟨false, 50, 7, (acc ++ l.entries.drop k).map eEnt⟩), (2, ⟨true, 0, 0, [[vI 0, vI 0, vI 0, .e0, vB false]]⟩), (1, ⟨true, 0, 0, [eLst l]⟩)]⟩)

noncomputable def prlCpL (l : Lst) (acc : List Ent) (k : Nat) : Bool := decide (l.entries.length * 88 ≤ 140737488355328) && decide (k ≤ l.entries.length) && decide (acc.length = k) && l.entries.all (fun e => decide (e.extra.length * 16 ≤ 140737488355328))

noncomputable def lpCpL : Nat × (St → T (Ex × St)) := (3, lpo [9, 8, 7, 3, 2, 1] [3, 2, 1] stCpL1 (fun a => prlCpL a.1 a.2.1 a.2.2) fun a => outCpL a.1 a.2.1 a.2.2)

noncomputable def enCpL : Env := envH ty noG lks [oCpE] [] [] [lpCpL]

theorem enCpL_ok : EnvOK Tryz.prog enCpL := by
  refine envH_ok lks_ok ty_ok ?_ ?_
  · simp only [List.forall_mem_cons]
    exact ⟨okCpE, by simp⟩
  · simp

theorem evCpLL (l : Lst) (acc : List Ent) (k : Nat) : ((exec enCpL (loopN Tryz.f36 0) (stCpL l acc k)).bind (lessX ([9, 8, 7, 3, 2, 1], [3, 2, 1]) ([3, 2, 1], [3, 2, 1]) ([], []))).val =
  (fun (q : Ent) => (fun (q_1 : List (Nat × AV)) => (fun (q_2 : List (Nat × Blk)) => bif decide ((↑k : Int) < (↑(List.length l.entries) : Int)) then Option.bind (unenc
  (List.map eEnt) (List.map eEnt l.entries)) fun (z : List Ent) => bif decide (k < List.length z) then Option.bind (unenc encCpE [AV.agg [(vS (List.getD z k q).uri), (vI
  (List.getD z k q).milli), (vB (List.getD z k q).brk), (vI (List.getD z k q).date), (vS (List.getD z k q).key), (vB (List.getD z k q).gap), AV.sl (List.map eStr (List.getD
  z k q).extra)]]) fun (z : Ent) => bif decide (List.length z.extra * (16 : Nat) ≤ (140737488355328 : Nat)) then bif Nat.ble ((List.length (List.map eEnt acc) + (1 : Nat)) *
  (88 : Nat)) (140737488355328 : Nat) && true then some (Ex.normal, St.mk ((9, (vI (IntKind.wrap IntKind.i64 ((↑k : Int) + (1 : Int))))) :: (8, (vI (↑(List.length l.entries)
  : Int))) :: (7, AV.sl (List.map eEnt l.entries)) :: q_1) ((3, Blk.mk false 50 7 (List.map eEnt acc ++ [[(vS z.uri), (vI z.milli), (vB z.brk), (vI z.date), (vS z.key), (vB
  z.gap), AV.sl (List.map eStr z.extra)]])) :: q_2)) else none else none else none else some (Ex.exit (0 : Nat), St.mk q_1 ((3, Blk.mk false 50 7 (List.map eEnt acc)) ::
  q_2))) [(2, Blk.mk true 0 0 [[(vI (0 : Int)), (vI (0 : Int)), (vI (0 : Int)), AV.e0, (vB false)]]), (1, Blk.mk true 0 0 [[(vI l.target), (vI l.first), (vI l.breaks), AV.sl
  (List.map eEnt l.entries), (vB l.ended)]])]) [(3, .own 3), (2, .ptr 2 0 0), (1, .ptr 1 0 0)]) (Ent.mk (ByteArray.mk (Array.mk [])) (0 : Int) false (0 : Int) (ByteArray.mk
  (Array.mk [])) false []) := by kernel_rfl

theorem lpCpL_ok (l : Lst) (acc : List Ent) (k : Nat) (hp : prlCpL l acc k = true) : ∀ ex s', (outCpL l acc k).val = some (ex, s') → LoopOK enCpL (loopN Tryz.f36 0) (stCpL l acc k) ex s' := by
  simp only [prlCpL, Bool.and_eq_true, decide_eq_true_eq] at hp
  obtain ⟨⟨⟨h1, h2⟩, h3⟩, h4⟩ := hp
  intro ex s' hh
  refine loop_fold (xs := l.entries) (st := stCpL l) (f := fun a y => a ++ [y]) (fin := fun a => (.exit 0, ⟨[(3, .own 3), (2, .ptr 2 0 0), (1, .ptr 1 0 0)], [(3, ⟨false, 50, 7, a.map eEnt⟩), (2, ⟨true, 0, 0, [[vI 0, vI 0, vI 0, .e0, vB false]]⟩), (1, ⟨true, 0, 0, [eLst l]⟩)]⟩)) (I := fun a k => a.length = k) (n := ([9, 8, 7, 3, 2, 1], [3, 2, 1])) (e := ([3, 2, 1], [3, 2, 1])) (r := ([], [])) ?_ (fun _ => ⟨by simp, rfl⟩) (fun _ _ => rfl) ?_ acc k h2 h3 ex s' (by rw [F.fold_app]; exact hh)
  · intro a _
    rw [evCpLL]; simp [eLst]
  · intro a k y hy hI
    have hlt := lt_at hy
    have he : decide (y.extra.length * 16 ≤ 140737488355328) = true := by
      have := List.all_eq_true.1 h4 y (List.mem_of_getElem? hy)
      exact this
    refine ⟨?_, by simp [hI]⟩
    rw [evCpLL]
    simp only [unCpE, unCpEw, preCpE1, unstCpL, unstCpL0, prlCpL, outCpL, etaEnt, etaLst, Option.bind_some, List.length_map, unStrs, unInts, unBools, unEnts, unItms, unTrns, cond_true, cond_false, Bool.and_true, Bool.true_and, cast_lt hlt, decide_eq_true hlt, next_at hlt (by omega : l.entries.length ≤ 9223372036854775807), getD_at hy, stCpL, eEnt, eLst, he]
    have hb : Nat.ble ((a.length + 1) * 88) 140737488355328 = true := ble_t (by omega)
    simp [hb, eEnt]

theorem evCpL (l : Lst) : (runF enCpL true Tryz.f36 [.agg (eLst l)]).val =
  Option.bind (unenc stCpL1 (St.mk [(9, (vI (0 : Int))), (8, (vI (↑(List.length (List.map eEnt l.entries)) : Int))), (7, AV.sl (List.map eEnt l.entries)), (3, .own 3), (2,
  .ptr 2 0 0), (1, .ptr 1 0 0)] [(3, Blk.mk false 50 7 []), (2, Blk.mk true 0 0 [[(vI (0 : Int)), (vI (0 : Int)), (vI (0 : Int)), AV.e0, (vB false)]]), (1, Blk.mk true 0 0
  [[(vI l.target), (vI l.first), (vI l.breaks), AV.sl (List.map eEnt l.entries), (vB l.ended)]])])) fun (z : Lst × List Ent × Nat) => bif (decide (List.length z.fst.entries
  * (88 : Nat) ≤ (140737488355328 : Nat)) && decide (z.snd.snd ≤ List.length z.fst.entries) && decide (List.length z.snd.fst = z.snd.snd) && List.all z.fst.entries fun (e :
  Ent) => decide (List.length e.extra * (16 : Nat) ≤ (140737488355328 : Nat))) && true then some (AV.agg [(vI z.fst.target), (vI z.fst.first), (vI z.fst.breaks), .own 0, (vB
  z.fst.ended)], [(0, Blk.mk false 50 7 (List.map eEnt (z.snd.fst ++ List.drop z.snd.snd z.fst.entries)))]) else none := by kernel_rfl

def encCpL1 (l : Lst) : List AV := [.agg (eLst l)]

def encCpL (a : Lst) : List AV := encCpL1 a

theorem encCpL_inj (a a' : Lst) (h : encCpL a = encCpL a') : a = a' := by
  simp only [encCpL, encCpL1] at h
  try simp [strs_inj, ents_inj, eEnt_iff, eLst_iff] at h
  grind

theorem unCpL (l : Lst) : unenc encCpL ([AV.agg [(vI l.target), (vI l.first), (vI l.breaks), AV.sl (List.map eEnt l.entries), (vB l.ended)]]) = some (l) := unenc_of encCpL_inj (l) rfl

theorem unCpLw (l_target : Int) (l_first : Int) (l_breaks : Int) (l_entries : List Ent) (l_ended : Bool) : unenc encCpL ([AV.agg [(vI l_target), (vI l_first), (vI l_breaks), AV.sl (List.map eEnt l_entries), (vB l_ended)]]) = some ((Lst.mk l_target l_first l_breaks l_entries l_ended)) := unenc_of encCpL_inj ((Lst.mk l_target l_first l_breaks l_entries l_ended)) rfl

def resCpL1 (l : Lst) : AV × Heap := (.agg [vI l.target, vI l.first, vI l.breaks, .own 0, vB l.ended], [(0, ⟨false, 50, 7, l.entries.map eEnt⟩)])

def preCpL1 (l : Lst) : Bool := decide (l.entries.length * 88 ≤ 140737488355328) && l.entries.all (fun e => decide (e.extra.length * 16 ≤ 140737488355328))

noncomputable def oCpL : Orc := orc 36 false encCpL (fun a => preCpL1 a) fun a => resCpL1 a

theorem okCpL : OrcOK Tryz.prog noG oCpL := by
  refine mk_ok Tryz.f36 (keep := true) (by kernel_rfl) (by kernel_rfl) enCpL_ok mixed (one_loop (x0 := loopN Tryz.f36 0) (by kernel_rfl) (lpo_ok ?_)) (by first | exact fun _ _ => ⟨rfl, rfl⟩ | (intro h; cases h)) ?_
  · rintro ⟨l, acc, k⟩ hp
    exact lpCpL_ok l acc k hp
  rintro l hpre hok
  show (runF enCpL true _ (encCpL1 _)).val = some (resCpL1 _)
  unfold encCpL1 resCpL1
  rw [evCpL]
  simp only [preCpL1, Bool.and_eq_true, decide_eq_true_eq] at hpre
  obtain ⟨h1, h2⟩ := hpre
  simp only [unCpE, unCpEw, preCpE1, unstCpL, unstCpL0, prlCpL, outCpL, etaEnt, etaLst, Option.bind_some, List.length_map, unStrs, unInts, unBools, unEnts, unItms, unTrns, cond_true, cond_false, Bool.and_true, Bool.true_and, h1, h2, List.drop_zero, Nat.zero_le, decide_true, List.nil_append, List.length_nil, List.map_nil]

end M

def F.sameSs (l : List (ByteArray × ByteArray)) : Bool := l.all fun p => F.seq p.1 p.2

def F.sameE (a b : Ent) : Bool := F.seq a.uri b.uri && (a.milli == b.milli) && (a.brk == b.brk) && (a.date == b.date) && F.seq a.key b.key && (a.gap == b.gap) && decide (a.extra.length = b.extra.length) && F.sameSs (a.extra.zip b.extra)

def F.sameEs (l : List (Ent × Ent)) : Bool := l.all fun p => F.sameE p.1 p.2

def F.sameL (a b : Lst) : Bool := (a.target == b.target) && (a.first == b.first) && (a.breaks == b.breaks) && (a.ended == b.ended) && decide (a.entries.length = b.entries.length) && F.sameEs (a.entries.zip b.entries)

theorem F.seq_refl (s : ByteArray) : F.seq s s = true := by simp [F.seq]

theorem F.zip_all {α : Type} (p : α → α → Bool) (h : ∀ a, p a a = true) : ∀ l : List α, ((l.zip l).all fun q => p q.1 q.2) = true
  | [] => rfl
  | y :: l => by simp only [List.zip_cons_cons, List.all_cons, h, Bool.true_and]; exact F.zip_all p h l

theorem F.sameE_refl (a : Ent) : F.sameE a a = true := by
  simp only [F.sameE, F.seq_refl, F.sameSs, F.zip_all F.seq F.seq_refl]
  simp

theorem F.sameL_refl (a : Lst) : F.sameL a a = true := by
  simp only [F.sameL, F.sameEs, F.zip_all F.sameE F.sameE_refl]
  simp

theorem F.zip_at {α β : Type} {a : List α} {b : List β} {k : Nat} {y : α × β} (h : (a.zip b)[k]? = some y) : a[k]? = some y.1 ∧ b[k]? = some y.2 := by
  rw [List.getElem?_zip_eq_some] at h
  exact h

theorem F.cond_tl (c x : Bool) : (bif c then true else x) = (c || x) := by cases c <;> rfl

theorem F.len_eq (n m : Nat) : ((n : Int) == (m : Int)) = decide (n = m) := by by_cases h : n = m <;> simp [h]; omega

namespace M

def stSmE (a : Ent) (b : Ent) (k : Nat) : St := ⟨[(5, vI k), (3, .ptr 3 0 0), (2, .ptr 2 0 0)], [(3, ⟨true, 0, 0, [eEnt b]⟩), (2, ⟨true, 0, 0, [eEnt a]⟩)]⟩

def stSmE1 (a : Ent × Ent × Nat) : St := stSmE a.1 a.2.1 a.2.2

theorem stSmE_inj (a a' : Ent × Ent × Nat) (h : stSmE1 a = stSmE1 a') : a = a' := by
  simp only [stSmE1, stSmE] at h
  try simp [strs_inj, ents_inj, eEnt_iff, eLst_iff] at h
  grind

theorem unstSmE (a : Ent) (b : Ent) (k : Nat) : unenc stSmE1 (St.mk [(5, (vI (↑k : Int))), (3, .ptr 3 0 0), (2, .ptr 2 0 0)] [(3, Blk.mk true 0 0 [[(vS b.uri), (vI b.milli), (vB b.brk), (vI b.date), (vS b.key), (vB b.gap), AV.sl
  (List.map eStr b.extra)]]), (2, Blk.mk true 0 0 [[(vS a.uri), (vI a.milli), (vB a.brk), (vI a.date), (vS a.key), (vB a.gap), AV.sl (List.map eStr a.extra)]])]) = some (a, b, k) := unenc_of stSmE_inj (a, b, k) rfl

theorem unstSmE0 (a : Ent) (b : Ent)  : unenc stSmE1 (St.mk [(5, (vI (0 : Int))), (3, .ptr 3 0 0), (2, .ptr 2 0 0)] [(3, Blk.mk true 0 0 [[(vS b.uri), (vI b.milli), (vB b.brk), (vI b.date), (vS b.key), (vB b.gap), AV.sl
  (List.map eStr b.extra)]]), (2, Blk.mk true 0 0 [[(vS a.uri), (vI a.milli), (vB a.brk), (vI a.date), (vS a.key), (vB a.gap), AV.sl (List.map eStr a.extra)]])]) = some (a, b, 0) := unenc_of stSmE_inj (a, b, 0) rfl

def outSmE (a : Ent) (b : Ent) (k : Nat) : T (Ex × St) := .ifB (F.sameSs ((a.extra.zip b.extra).drop k)) (.ret (.exit 0, ⟨[], []⟩)) (.ret (.ret, ⟨[(4, vB false)], []⟩))

noncomputable def prlSmE (a : Ent) (b : Ent) (k : Nat) : Bool := decide (a.extra.length ≤ 9223372036854775807) && decide (k ≤ a.extra.length) && decide (a.extra.length = b.extra.length)

noncomputable def lpSmE : Nat × (St → T (Ex × St)) := (4, lpo [5, 3, 2] [3, 2] stSmE1 (fun a => prlSmE a.1 a.2.1 a.2.2) fun a => outSmE a.1 a.2.1 a.2.2)

noncomputable def enSmE : Env := envH ty noG lks [] [] [] [lpSmE]

theorem enSmE_ok : EnvOK Tryz.prog enSmE := by
  refine envH_ok lks_ok ty_ok ?_ ?_
  · simp
  · simp

theorem evSmEL (a : Ent) (b : Ent) (k : Nat) : ((exec enSmE (loopN Tryz.f38 0) (stSmE a b k)).bind (lessX ([5, 3, 2], [3, 2]) ([], []) ([4], []))).val =
  bif decide ((↑k : Int) < (↑(List.length (List.map eStr a.extra)) : Int)) then Option.bind (unenc (List.map eStr) (List.map eStr a.extra)) fun (z : List ByteArray) => bif
  decide (k < List.length z) then Option.bind (unenc (List.map eStr) (List.map eStr b.extra)) fun (z_1 : List ByteArray) => bif decide (k < List.length z_1) then bif
  !ByteArray.toList (List.getD z k (ByteArray.mk (Array.mk []))) == ByteArray.toList (List.getD z_1 k (ByteArray.mk (Array.mk []))) then some (Ex.ret, St.mk [(4, (vB
  false))] []) else some (Ex.normal, St.mk [(5, (vI (IntKind.wrap IntKind.i64 ((↑k : Int) + (1 : Int))))), (3, .ptr 3 0 0), (2, .ptr 2 0 0)] [(3, Blk.mk true 0 0 [[(vS
  b.uri), (vI b.milli), (vB b.brk), (vI b.date), (vS b.key), (vB b.gap), AV.sl (List.map eStr b.extra)]]), (2, Blk.mk true 0 0 [[(vS a.uri), (vI a.milli), (vB a.brk), (vI
  a.date), (vS a.key), (vB a.gap), AV.sl (List.map eStr a.extra)]])]) else none else none else some (Ex.exit (0 : Nat), St.mk [] []) := by kernel_rfl

theorem lpSmE_ok (a : Ent) (b : Ent) (k : Nat) (hp : prlSmE a b k = true) : ∀ ex s', (outSmE a b k).val = some (ex, s') → LoopOK enSmE (loopN Tryz.f38 0) (stSmE a b k) ex s' := by
  simp only [prlSmE, Bool.and_eq_true, decide_eq_true_eq] at hp
  obtain ⟨⟨h1, h2⟩, h3⟩ := hp
  have hz : (a.extra.zip b.extra).length = a.extra.length := by rw [List.length_zip]; omega
  refine loop_all (xs := a.extra.zip b.extra) (st := stSmE a b) (p := fun p => F.seq p.1 p.2) (n := ([5, 3, 2], [3, 2])) (e := ([], [])) (r := ([4], [])) ?_ ⟨by simp, rfl⟩ ⟨by simp, rfl⟩ (fun _ => rfl) ?_ k (by omega)
  · rw [hz]; rw [evSmEL]; simp
  · intro k y hy
    obtain ⟨ha, hb⟩ := F.zip_at hy
    have hlt := lt_at ha
    have hlt' := lt_at hb
    rw [evSmEL]
    simp only [unstSmE, unstSmE0, prlSmE, outSmE, etaEnt, etaLst, Option.bind_some, List.length_map, unStrs, unInts, unBools, unEnts, unItms, unTrns, cond_true, cond_false, Bool.and_true, Bool.true_and, cast_lt hlt, decide_eq_true hlt, decide_eq_true hlt', next_at hlt h1, getD_at ha, getD_at hb, stSmE, eEnt, F.seq]
    simp only [Bool.cond_eq_ite]
    grind

theorem evSmE (a : Ent) (b : Ent) : (runF enSmE false Tryz.f38 [.agg (eEnt a), .agg (eEnt b)]).val =
  bif bif bif bif bif bif bif !ByteArray.toList a.uri == ByteArray.toList b.uri then true else a.milli != b.milli then true else !a.brk == b.brk then true else a.date !=
  b.date then true else !ByteArray.toList a.key == ByteArray.toList b.key then true else !a.gap == b.gap then true else (↑(List.length (List.map eStr a.extra)) : Int) !=
  (↑(List.length (List.map eStr b.extra)) : Int) then some ((vB false), []) else Option.bind (unenc stSmE1 (St.mk [(5, (vI (0 : Int))), (3, .ptr 3 0 0), (2, .ptr 2 0 0)]
  [(3, Blk.mk true 0 0 [[(vS b.uri), (vI b.milli), (vB b.brk), (vI b.date), (vS b.key), (vB b.gap), AV.sl (List.map eStr b.extra)]]), (2, Blk.mk true 0 0 [[(vS a.uri), (vI
  a.milli), (vB a.brk), (vI a.date), (vS a.key), (vB a.gap), AV.sl (List.map eStr a.extra)]])])) fun (z : Ent × Ent × Nat) => bif decide (List.length z.fst.extra ≤
  (9223372036854775807 : Nat)) && decide (z.snd.snd ≤ List.length z.fst.extra) && decide (List.length z.fst.extra = List.length z.snd.fst.extra) && true then bif F.sameSs
  (List.drop z.snd.snd (List.zip z.fst.extra z.snd.fst.extra)) then some ((vB true), []) else some ((vB false), []) else none := by kernel_rfl

def encSmE1 (a : Ent) (b : Ent) : List AV := [.agg (eEnt a), .agg (eEnt b)]

def encSmE (a : Ent × Ent) : List AV := encSmE1 a.1 a.2

theorem encSmE_inj (a a' : Ent × Ent) (h : encSmE a = encSmE a') : a = a' := by
  simp only [encSmE, encSmE1] at h
  try simp [strs_inj, ents_inj, eEnt_iff, eLst_iff] at h
  grind

theorem unSmE (a : Ent) (b : Ent) : unenc encSmE ([AV.agg [(vS a.uri), (vI a.milli), (vB a.brk), (vI a.date), (vS a.key), (vB a.gap), AV.sl (List.map eStr a.extra)], AV.agg [(vS b.uri), (vI b.milli), (vB b.brk), (vI
  b.date), (vS b.key), (vB b.gap), AV.sl (List.map eStr b.extra)]]) = some (a, b) := unenc_of encSmE_inj (a, b) rfl

theorem unSmEw (a_uri : ByteArray) (a_milli : Int) (a_brk : Bool) (a_date : Int) (a_key : ByteArray) (a_gap : Bool) (a_extra : List ByteArray) (b_uri : ByteArray) (b_milli : Int) (b_brk : Bool) (b_date : Int) (b_key : ByteArray) (b_gap : Bool) (b_extra : List ByteArray) : unenc encSmE ([AV.agg [(vS a_uri), (vI a_milli), (vB a_brk), (vI a_date), (vS a_key), (vB a_gap), AV.sl (List.map eStr a_extra)], AV.agg [(vS b_uri), (vI b_milli), (vB b_brk), (vI
  b_date), (vS b_key), (vB b_gap), AV.sl (List.map eStr b_extra)]]) = some ((Ent.mk a_uri a_milli a_brk a_date a_key a_gap a_extra), (Ent.mk b_uri b_milli b_brk b_date b_key b_gap b_extra)) := unenc_of encSmE_inj ((Ent.mk a_uri a_milli a_brk a_date a_key a_gap a_extra), (Ent.mk b_uri b_milli b_brk b_date b_key b_gap b_extra)) rfl

def resSmE1 (a : Ent) (b : Ent) : AV × Heap := (vB (F.sameE a b), [])

def preSmE1 (a : Ent) (b : Ent) : Bool := true

noncomputable def oSmE : Orc := orc 38 true encSmE (fun a => preSmE1 a.1 a.2) fun a => resSmE1 a.1 a.2

theorem okSmE : OrcOK Tryz.prog noG oSmE := by
  refine mk_ok Tryz.f38 (keep := false) (by kernel_rfl) (by kernel_rfl) enSmE_ok mixed (one_loop (x0 := loopN Tryz.f38 0) (by kernel_rfl) (lpo_ok ?_)) (by first | exact fun _ _ => ⟨rfl, rfl⟩ | (intro h; cases h)) ?_
  · rintro ⟨a, b, k⟩ hp
    exact lpSmE_ok a b k hp
  rintro ⟨a, b⟩ hpre hok
  show (runF enSmE false _ (encSmE1 _ _)).val = some (resSmE1 _ _)
  unfold encSmE1 resSmE1
  rw [evSmE]
  obtain ⟨hm, hx, _⟩ := ent_bounds (hok _ (List.mem_cons_self ..))
  simp only [unstSmE, unstSmE0, prlSmE, outSmE, etaEnt, etaLst, Option.bind_some, List.length_map, unStrs, unInts, unBools, unEnts, unItms, unTrns, cond_true, cond_false, Bool.and_true, Bool.true_and, F.sameE, F.seq, hx, List.drop_zero, Nat.zero_le, decide_true, F.cond_tl, F.len_eq, bne]
  cases a.uri.toList == b.uri.toList <;> cases a.milli == b.milli <;> cases a.brk == b.brk <;> cases a.date == b.date <;> cases a.key.toList == b.key.toList <;> cases a.gap == b.gap <;> try simp
  cases h : decide (a.extra.length = b.extra.length) <;> cases F.sameSs (a.extra.zip b.extra) <;> simp_all

def stSmL (a : Lst) (b : Lst) (k : Nat) : St := ⟨[(5, vI k), (3, .ptr 3 0 0), (2, .ptr 2 0 0)], [(3, ⟨true, 0, 0, [eLst b]⟩), (2, ⟨true, 0, 0, [eLst a]⟩)]⟩

def stSmL1 (a : Lst × Lst × Nat) : St := stSmL a.1 a.2.1 a.2.2

theorem stSmL_inj (a a' : Lst × Lst × Nat) (h : stSmL1 a = stSmL1 a') : a = a' := by
  simp only [stSmL1, stSmL] at h
  try simp [strs_inj, ents_inj, eEnt_iff, eLst_iff] at h
  grind

theorem unstSmL (a : Lst) (b : Lst) (k : Nat) : unenc stSmL1 (St.mk [(5, (vI (↑k : Int))), (3, .ptr 3 0 0), (2, .ptr 2 0 0)] [(3, Blk.mk true 0 0 [[(vI b.target), (vI b.first), (vI b.breaks), AV.sl (List.map eEnt b.entries), (vB
  b.ended)]]), (2, Blk.mk true 0 0 [[(vI a.target), (vI a.first), (vI a.breaks), AV.sl (List.map eEnt a.entries), (vB a.ended)]])]) = some (a, b, k) := unenc_of stSmL_inj (a, b, k) rfl

theorem unstSmL0 (a : Lst) (b : Lst)  : unenc stSmL1 (St.mk [(5, (vI (0 : Int))), (3, .ptr 3 0 0), (2, .ptr 2 0 0)] [(3, Blk.mk true 0 0 [[(vI b.target), (vI b.first), (vI b.breaks), AV.sl (List.map eEnt b.entries), (vB
  b.ended)]]), (2, Blk.mk true 0 0 [[(vI a.target), (vI a.first), (vI a.breaks), AV.sl (List.map eEnt a.entries), (vB a.ended)]])]) = some (a, b, 0) := unenc_of stSmL_inj (a, b, 0) rfl

def outSmL (a : Lst) (b : Lst) (k : Nat) : T (Ex × St) := .ifB (F.sameEs ((a.entries.zip b.entries).drop k)) (.ret (.exit 0, ⟨[], []⟩)) (.ret (.ret, ⟨[(4, vB false)], []⟩))

noncomputable def prlSmL (a : Lst) (b : Lst) (k : Nat) : Bool := decide (a.entries.length ≤ 9223372036854775807) && decide (k ≤ a.entries.length) && decide (a.entries.length = b.entries.length)

noncomputable def lpSmL : Nat × (St → T (Ex × St)) := (4, lpo [5, 3, 2] [3, 2] stSmL1 (fun a => prlSmL a.1 a.2.1 a.2.2) fun a => outSmL a.1 a.2.1 a.2.2)

noncomputable def enSmL : Env := envH ty noG lks [oSmE] [] [] [lpSmL]

theorem enSmL_ok : EnvOK Tryz.prog enSmL := by
  refine envH_ok lks_ok ty_ok ?_ ?_
  · simp only [List.forall_mem_cons]
    exact ⟨okSmE, by simp⟩
  · simp

theorem evSmLL (a : Lst) (b : Lst) (k : Nat) : ((exec enSmL (loopN Tryz.f18 0) (stSmL a b k)).bind (lessX ([5, 3, 2], [3, 2]) ([], []) ([4], []))).val =
  (fun (q : Ent) => bif decide ((↑k : Int) < (↑(List.length (List.map eEnt a.entries)) : Int)) then Option.bind (unenc (List.map eEnt) (List.map eEnt a.entries)) fun (z :
  List Ent) => bif decide (k < List.length z) then Option.bind (unenc (List.map eEnt) (List.map eEnt b.entries)) fun (z_1 : List Ent) => bif decide (k < List.length z_1)
  then Option.bind (unenc encSmE [AV.agg [(vS (List.getD z k q).uri), (vI (List.getD z k q).milli), (vB (List.getD z k q).brk), (vI (List.getD z k q).date), (vS (List.getD z
  k q).key), (vB (List.getD z k q).gap), AV.sl (List.map eStr (List.getD z k q).extra)], AV.agg [(vS (List.getD z_1 k q).uri), (vI (List.getD z_1 k q).milli), (vB (List.getD
  z_1 k q).brk), (vI (List.getD z_1 k q).date), (vS (List.getD z_1 k q).key), (vB (List.getD z_1 k q).gap), AV.sl (List.map eStr (List.getD z_1 k q).extra)]]) fun (z : Ent ×
  Ent) => bif !F.sameE z.fst z.snd then some (Ex.ret, St.mk [(4, (vB false))] []) else some (Ex.normal, St.mk [(5, (vI (IntKind.wrap IntKind.i64 ((↑k : Int) + (1 : Int))))),
  (3, .ptr 3 0 0), (2, .ptr 2 0 0)] [(3, Blk.mk true 0 0 [[(vI b.target), (vI b.first), (vI b.breaks), AV.sl (List.map eEnt b.entries), (vB b.ended)]]), (2, Blk.mk true 0 0
  [[(vI a.target), (vI a.first), (vI a.breaks), AV.sl (List.map eEnt a.entries), (vB a.ended)]])]) else none else none else some (Ex.exit (0 : Nat), St.mk [] [])) (Ent.mk
  (ByteArray.mk (Array.mk [])) (0 : Int) false (0 : Int) (ByteArray.mk (Array.mk [])) false []) := by kernel_rfl

theorem lpSmL_ok (a : Lst) (b : Lst) (k : Nat) (hp : prlSmL a b k = true) : ∀ ex s', (outSmL a b k).val = some (ex, s') → LoopOK enSmL (loopN Tryz.f18 0) (stSmL a b k) ex s' := by
  simp only [prlSmL, Bool.and_eq_true, decide_eq_true_eq] at hp
  obtain ⟨⟨h1, h2⟩, h3⟩ := hp
  have hz : (a.entries.zip b.entries).length = a.entries.length := by rw [List.length_zip]; omega
  refine loop_all (xs := a.entries.zip b.entries) (st := stSmL a b) (p := fun p => F.sameE p.1 p.2) (n := ([5, 3, 2], [3, 2])) (e := ([], [])) (r := ([4], [])) ?_ ⟨by simp, rfl⟩ ⟨by simp, rfl⟩ (fun _ => rfl) ?_ k (by omega)
  · rw [hz]; rw [evSmLL]; simp
  · intro k y hy
    obtain ⟨ha, hb⟩ := F.zip_at hy
    have hlt := lt_at ha
    have hlt' := lt_at hb
    rw [evSmLL]
    simp only [unSmE, unSmEw, preSmE1, unstSmL, unstSmL0, prlSmL, outSmL, etaEnt, etaLst, Option.bind_some, List.length_map, unStrs, unInts, unBools, unEnts, unItms, unTrns, cond_true, cond_false, Bool.and_true, Bool.true_and, cast_lt hlt, decide_eq_true hlt, decide_eq_true hlt', next_at hlt h1, getD_at ha, getD_at hb, stSmL, eEnt, eLst]
    simp only [Bool.cond_eq_ite]
    grind

theorem evSmL (a : Lst) (b : Lst) : (runF enSmL false Tryz.f18 [.agg (eLst a), .agg (eLst b)]).val =
  bif bif bif bif bif a.target != b.target then true else a.first != b.first then true else a.breaks != b.breaks then true else !a.ended == b.ended then true else
  (↑(List.length (List.map eEnt a.entries)) : Int) != (↑(List.length (List.map eEnt b.entries)) : Int) then some ((vB false), []) else Option.bind (unenc stSmL1 (St.mk [(5,
  (vI (0 : Int))), (3, .ptr 3 0 0), (2, .ptr 2 0 0)] [(3, Blk.mk true 0 0 [[(vI b.target), (vI b.first), (vI b.breaks), AV.sl (List.map eEnt b.entries), (vB b.ended)]]), (2,
  Blk.mk true 0 0 [[(vI a.target), (vI a.first), (vI a.breaks), AV.sl (List.map eEnt a.entries), (vB a.ended)]])])) fun (z : Lst × Lst × Nat) => bif decide (List.length
  z.fst.entries ≤ (9223372036854775807 : Nat)) && decide (z.snd.snd ≤ List.length z.fst.entries) && decide (List.length z.fst.entries = List.length z.snd.fst.entries) &&
  true then bif F.sameEs (List.drop z.snd.snd (List.zip z.fst.entries z.snd.fst.entries)) then some ((vB true), []) else some ((vB false), []) else none := by kernel_rfl

def encSmL1 (a : Lst) (b : Lst) : List AV := [.agg (eLst a), .agg (eLst b)]

def encSmL (a : Lst × Lst) : List AV := encSmL1 a.1 a.2

theorem encSmL_inj (a a' : Lst × Lst) (h : encSmL a = encSmL a') : a = a' := by
  simp only [encSmL, encSmL1] at h
  try simp [strs_inj, ents_inj, eEnt_iff, eLst_iff] at h
  grind

theorem unSmL (a : Lst) (b : Lst) : unenc encSmL ([AV.agg [(vI a.target), (vI a.first), (vI a.breaks), AV.sl (List.map eEnt a.entries), (vB a.ended)], AV.agg [(vI b.target), (vI b.first), (vI b.breaks), AV.sl (List.map
  eEnt b.entries), (vB b.ended)]]) = some (a, b) := unenc_of encSmL_inj (a, b) rfl

theorem unSmLw (a_target : Int) (a_first : Int) (a_breaks : Int) (a_entries : List Ent) (a_ended : Bool) (b_target : Int) (b_first : Int) (b_breaks : Int) (b_entries : List Ent) (b_ended : Bool) : unenc encSmL ([AV.agg [(vI a_target), (vI a_first), (vI a_breaks), AV.sl (List.map eEnt a_entries), (vB a_ended)], AV.agg [(vI b_target), (vI b_first), (vI b_breaks), AV.sl (List.map
  eEnt b_entries), (vB b_ended)]]) = some ((Lst.mk a_target a_first a_breaks a_entries a_ended), (Lst.mk b_target b_first b_breaks b_entries b_ended)) := unenc_of encSmL_inj ((Lst.mk a_target a_first a_breaks a_entries a_ended), (Lst.mk b_target b_first b_breaks b_entries b_ended)) rfl

def resSmL1 (a : Lst) (b : Lst) : AV × Heap := (vB (F.sameL a b), [])

def preSmL1 (a : Lst) (b : Lst) : Bool := true

noncomputable def oSmL : Orc := orc 18 true encSmL (fun a => preSmL1 a.1 a.2) fun a => resSmL1 a.1 a.2

theorem okSmL : OrcOK Tryz.prog noG oSmL := by
  refine mk_ok Tryz.f18 (keep := false) (by kernel_rfl) (by kernel_rfl) enSmL_ok mixed (one_loop (x0 := loopN Tryz.f18 0) (by kernel_rfl) (lpo_ok ?_)) (by first | exact fun _ _ => ⟨rfl, rfl⟩ | (intro h; cases h)) ?_
  · rintro ⟨a, b, k⟩ hp
    exact lpSmL_ok a b k hp
  rintro ⟨a, b⟩ hpre hok
  show (runF enSmL false _ (encSmL1 _ _)).val = some (resSmL1 _ _)
  unfold encSmL1 resSmL1
  rw [evSmL]
  have hx := lst_len (hok _ (List.mem_cons_self ..))
  simp only [unSmE, unSmEw, preSmE1, unstSmL, unstSmL0, prlSmL, outSmL, etaEnt, etaLst, Option.bind_some, List.length_map, unStrs, unInts, unBools, unEnts, unItms, unTrns, cond_true, cond_false, Bool.and_true, Bool.true_and, F.sameL, hx, List.drop_zero, Nat.zero_le, decide_true, F.cond_tl, F.len_eq, bne]
  cases a.target == b.target <;> cases a.first == b.first <;> cases a.breaks == b.breaks <;> cases a.ended == b.ended <;> try simp
  cases h : decide (a.entries.length = b.entries.length) <;> cases F.sameEs (a.entries.zip b.entries) <;> simp_all

end M

structure Snd where
  group : ByteArray
  name : ByteArray
  lang : ByteArray
  dflt : Bool
  uri : ByteArray

instance : Inhabited Snd := ⟨⟨⟨#[]⟩, ⟨#[]⟩, ⟨#[]⟩, false, ⟨#[]⟩⟩⟩

structure Strm where
  name : ByteArray
  uri : ByteArray
  mean : Int
  peak : Int
  width : Int
  height : Int
  sound : ByteArray

instance : Inhabited Strm := ⟨⟨⟨#[]⟩, ⟨#[]⟩, 0, 0, 0, 0, ⟨#[]⟩⟩⟩

structure Mas where
  streams : List Strm
  sounds : List Snd

instance : Inhabited Mas := ⟨⟨[], []⟩⟩

namespace M

def eSnd (x : Snd) : Row := [vS x.group, vS x.name, vS x.lang, vB x.dflt, vS x.uri]

theorem eSnd_inj (a b : Snd) (h : eSnd a = eSnd b) : a = b := by
  obtain ⟨a0, a1, a2, a3, a4⟩ := a
  obtain ⟨b0, b1, b2, b3, b4⟩ := b
  simp only [eSnd] at h
  simp [strs_inj, ints_inj, bools_inj] at h
  simp_all

theorem eSnds_inj {a b : List Snd} : a.map eSnd = b.map eSnd ↔ a = b := List.map_inj_right eSnd_inj

theorem eSnd_iff {a b : Snd} : eSnd a = eSnd b ↔ a = b := ⟨eSnd_inj a b, fun h => h ▸ rfl⟩

theorem etaSnd (x : Snd) : Snd.mk x.group x.name x.lang x.dflt x.uri = x := rfl

def eStrm (x : Strm) : Row := [vS x.name, vS x.uri, vI x.mean, vI x.peak, vI x.width, vI x.height, vS x.sound]

theorem eStrm_inj (a b : Strm) (h : eStrm a = eStrm b) : a = b := by
  obtain ⟨a0, a1, a2, a3, a4, a5, a6⟩ := a
  obtain ⟨b0, b1, b2, b3, b4, b5, b6⟩ := b
  simp only [eStrm] at h
  simp [strs_inj, ints_inj, bools_inj, eSnds_inj, eSnd_iff] at h
  simp_all

theorem eStrms_inj {a b : List Strm} : a.map eStrm = b.map eStrm ↔ a = b := List.map_inj_right eStrm_inj

theorem etaStrm (x : Strm) : Strm.mk x.name x.uri x.mean x.peak x.width x.height x.sound = x := rfl

theorem etaMas (x : Mas) : Mas.mk x.streams x.sounds = x := rfl

end M

def F.withE (l : Lst) (es : List Ent) : Lst := ⟨l.target, l.first, l.breaks, es, l.ended⟩

def F.add (l : Lst) (e : Ent) : Lst × Int :=
  if F.check l ≠ 0 then (default, F.check l) else if l.ended then (default, 11) else
  if F.check (F.withE l (l.entries ++ [e])) ≠ 0 then (default, F.check (F.withE l (l.entries ++ [e]))) else (F.withE l (l.entries ++ [e]), 0)

theorem F.ffI_zero {α : Type} {g : α → Int} : ∀ {l : List α}, M.ffI g l = 0 → ∀ y ∈ l, g y = 0
  | y :: l, h, z, hz => by
    simp only [M.ffI] at h
    split at h
    · rename_i h0
      rcases List.mem_cons.1 hz with rfl | hz
      · exact h0
      · exact F.ffI_zero h z hz
    · exact absurd h ‹_›

theorem F.check_ok {l : Lst} (h : F.check l = 0) : l.entries.length ≤ 1000 ∧ (∀ e ∈ l.entries, F.entryFault e l.target = 0) ∧ (1 ≤ l.target ∧ l.target ≤ 3600) ∧ (0 ≤ l.first ∧ l.first ≤ 999999999999000) ∧ (0 ≤ l.breaks ∧ l.breaks ≤ 1000000000000000) := by
  unfold F.check at h
  split at h
  · cases h
  · rename_i h1
    split at h
    · cases h
    · simp only [F.out, Bool.or_eq_true, decide_eq_true_eq] at h1
      exact ⟨by omega, F.ffI_zero h, by omega, by omega, by omega⟩

theorem F.entry_ok {e : Ent} {t : Int} (h : F.entryFault e t = 0) : (1 ≤ e.milli ∧ e.milli ≤ 3600000) ∧ e.extra.length ≤ 20 ∧ (-1 ≤ e.date ∧ e.date ≤ 253402300799999) := by
  unfold F.entryFault at h
  split at h
  · exact absurd h ‹_›
  · split at h
    · cases h
    · rename_i h1
      split at h
      · cases h
      · split at h
        · cases h
        · rename_i h2
          split at h
          · cases h
          · split at h
            · cases h
            · simp only [F.out, Bool.or_eq_true, decide_eq_true_eq] at h1 h2
              omega

theorem F.check_room {l : Lst} (h : F.check l = 0) : (decide (l.entries.length * 88 ≤ 140737488355328) && l.entries.all fun e => decide (e.extra.length * 16 ≤ 140737488355328)) = true := by
  obtain ⟨h1, h2, _⟩ := F.check_ok h
  rw [Bool.and_eq_true, decide_eq_true_eq, List.all_eq_true]
  exact ⟨by omega, fun e he => decide_eq_true (by have := (F.entry_ok (h2 e he)).2.1; omega)⟩

namespace M

theorem appEnts' (xs : List Ent) (e : Ent) : xs.map eEnt ++ [[vS e.uri, vI e.milli, vB e.brk, vI e.date, vS e.key, vB e.gap, .sl (e.extra.map eStr)]] = (xs ++ [e]).map eEnt := by simp [eEnt]

theorem bne0 {x : Int} (h : x = 0) : (x != 0) = false := by simp [h]

theorem bne1 {x : Int} (h : ¬ x = 0) : (x != 0) = true := by simp [h]

end M

def F.length (l : Lst) : Int × Int := if F.check l ≠ 0 then (0, F.check l) else (F.lenF 0 l.entries, 0)

namespace M

noncomputable def enLng : Env := envH ty noG lks [oChk, oLen] [] [] []

theorem enLng_ok : EnvOK Tryz.prog enLng := by
  refine envH_ok lks_ok ty_ok ?_ ?_
  · simp only [List.forall_mem_cons]
    exact ⟨okChk, okLen, by simp⟩
  · simp

theorem evLng (l : Lst) : (runF enLng false Tryz.f10 [.agg (eLst l)]).val =
  Option.bind (unenc encChk [AV.agg [(vI l.target), (vI l.first), (vI l.breaks), AV.sl (List.map eEnt l.entries), (vB l.ended)]]) fun (z : Lst) => bif F.check z != (0 : Int)
  then some (AV.tup [(vI (0 : Int)), (vI (F.check z))], []) else Option.bind (unenc encLen [AV.agg [(vI l.target), (vI l.first), (vI l.breaks), AV.sl (List.map eEnt
  l.entries), (vB l.ended)]]) fun (z : Lst) => some (AV.tup [(vI (F.lenF (0 : Int) z.entries)), (vI (0 : Int))], []) := by kernel_rfl

def encLng1 (l : Lst) : List AV := [.agg (eLst l)]

def encLng (a : Lst) : List AV := encLng1 a

theorem encLng_inj (a a' : Lst) (h : encLng a = encLng a') : a = a' := by
  simp only [encLng, encLng1] at h
  try simp [strs_inj, ents_inj, eEnt_iff, eLst_iff] at h
  grind

def resLng1 (l : Lst) : AV × Heap := (.tup [vI (F.length l).1, vI (F.length l).2], [])

def preLng1 (l : Lst) : Bool := true

noncomputable def oLng : Orc := orc 10 true encLng (fun a => preLng1 a) fun a => resLng1 a

theorem okLng : OrcOK Tryz.prog noG oLng := by
  refine mk_ok Tryz.f10 (keep := false) (by kernel_rfl) (by kernel_rfl) enLng_ok mixed (no_loops (by kernel_rfl)) (by first | exact fun _ _ => ⟨rfl, rfl⟩ | (intro h; cases h)) ?_
  rintro l hpre hok
  show (runF enLng false _ (encLng1 _)).val = some (resLng1 _)
  unfold encLng1 resLng1
  rw [evLng]
  simp only [unChk, unLen, unChkw, unLenw, preChk1, preLen1, etaEnt, etaLst, Option.bind_some, List.length_map, unStrs, unInts, unBools, unEnts, unItms, unTrns, cond_true, cond_false, Bool.and_true, Bool.true_and]
  by_cases h0 : F.check l = 0
  · simp only [F.length, h0, bne_self_eq_false, cond_false, ne_eq, not_true_eq_false, if_false]
  · have hb : (F.check l != 0) = true := by simp [h0]
    simp only [hb, cond_true, F.length, h0, if_true, ne_eq, not_false_eq_true]

noncomputable def enAwk : Env := envH ty noG lks [oLng] [] [] []

theorem enAwk_ok : EnvOK Tryz.prog enAwk := by
  refine envH_ok lks_ok ty_ok ?_ ?_
  · simp only [List.forall_mem_cons]
    exact ⟨okLng, by simp⟩
  · simp

def awL : Lst := ⟨4, 0, 0, [⟨⟨#[97]⟩, 7, false, -1, ⟨#[]⟩, false, []⟩], false⟩

theorem awL_len : F.length awL = (7, 0) := by kernel_rfl

theorem evAwk  : (runF enAwk false Tryz.f15 []).val =
  Option.bind (unenc encLng [AV.agg [(vI (4 : Int)), (vI (0 : Int)), (vI (0 : Int)), AV.sl [[(vS (ByteArray.mk (Array.mk [(97 : UInt8)]))), (vI (7 : Int)), (vB false), (vI
  (-1 : Int)), (vS (ByteArray.mk (Array.mk []))), (vB false), AV.sl []]], (vB false)]]) fun (z : Lst) => some ((vB (bif (F.length z).snd == (0 : Int) then (F.length z).fst
  == (7 : Int) else false)), []) := by kernel_rfl

def encAwk1  : List AV := []

def encAwk (a : Unit) : List AV := encAwk1

theorem encAwk_inj (a a' : Unit) (h : encAwk a = encAwk a') : a = a' := rfl

theorem unAwk  : unenc encAwk ([]) = some () := unenc_of encAwk_inj () rfl

def resAwk1  : AV × Heap := (vB true, [])

def preAwk1  : Bool := true

noncomputable def oAwk : Orc := orc 15 true encAwk (fun a => preAwk1) fun a => resAwk1

theorem okAwk : OrcOK Tryz.prog noG oAwk := by
  refine mk_ok Tryz.f15 (keep := false) (by kernel_rfl) (by kernel_rfl) enAwk_ok mixed (no_loops (by kernel_rfl)) (by first | exact fun _ _ => ⟨rfl, rfl⟩ | (intro h; cases h)) ?_
  rintro ⟨⟩ hpre hok
  show (runF enAwk false _ (encAwk1 )).val = some (resAwk1 )
  unfold encAwk1 resAwk1
  rw [evAwk]
  show (Option.bind (unenc encLng (encLng awL)) _ : Option (AV × Heap)) = _
  rw [unenc_of encLng_inj awL rfl, Option.bind_some, awL_len]
  rfl

end M

namespace M

end M

def F.lt (a b : Int) : Bool := decide (a < b)

def F.le (a b : Int) : Bool := decide (a ≤ b)

def F.sameEL (a b : List Ent) : Bool := decide (a.length = b.length) && F.sameEs (a.zip b)

def F.sameSL (a b : List ByteArray) : Bool := decide (a.length = b.length) && F.sameSs (a.zip b)

def F.bnS (a : Int × List Int) (e : Ent) : Int × List Int := bif e.brk then (IntKind.i64.wrap (a.1 + 1), a.2 ++ [IntKind.i64.wrap (a.1 + 1)]) else (a.1, a.2 ++ [a.1])

def F.bnA (b : Int) (acc : List Int) (l : List Ent) : List Int := (l.foldl F.bnS (b, acc)).2

def F.bn (l : Lst) : List Int := F.bnA l.breaks [] l.entries

theorem F.bnA_len : ∀ (l : List Ent) (b : Int) (acc : List Int), (F.bnA b acc l).length = acc.length + l.length
  | [], b, acc => by simp [F.bnA]
  | e :: l, b, acc => by
    show (F.bnA (F.bnS (b, acc) e).1 (F.bnS (b, acc) e).2 l).length = _
    rw [F.bnA_len l]
    simp only [F.bnS, List.length_cons]
    cases e.brk <;> simp <;> omega

theorem F.bn_len (l : Lst) : (F.bn l).length = l.entries.length := by simp [F.bn, F.bnA_len]

def F.endN (l : Lst) : Int := IntKind.i64.wrap (l.first + l.entries.length)

def F.folX (old now : Lst) : List ((Ent × Ent) × (Int × Int)) :=
  ((old.entries.drop (now.first - old.first).toNat).zip now.entries).zip (((F.bn old).drop (now.first - old.first).toNat).zip (F.bn now))

def F.folG (p : (Ent × Ent) × (Int × Int)) : Int := if F.sameE p.1.1 p.1.2 = false then 12 else if p.2.1 ≠ p.2.2 then 3 else 0

def F.folL (old now : Lst) (n : Int) : Int := M.ffI F.folG ((F.folX old now).drop (n - now.first).toNat)

def F.last (l : Lst) : Int := bif F.lt 0 (F.bn l).length then (F.bn l).getD ((F.bn l).length - 1) 0 else l.breaks

def F.fol (old now : Lst) : Int :=
  bif old.target != now.target then 6 else bif old.ended && !F.sameL old now then 11 else bif F.lt now.first old.first || F.lt (F.endN now) (F.endN old) then 8 else
  bif F.folL old now now.first != 0 then F.folL old now now.first else bif F.le (F.endN old) now.first && F.lt now.breaks (F.last old) then 8 else 0

def F.follows (old now : Lst) : Int := bif F.check old != 0 then F.check old else bif F.check now != 0 then F.check now else F.fol old now

def F.folOK (old now : Lst) : Bool := decide (F.check old = 0) && decide (F.check now = 0) && F.le old.first now.first && F.le (F.endN old) (F.endN now)

theorem F.folOK_ok {old now : Lst} (h : F.folOK old now = true) : F.check old = 0 ∧ F.check now = 0 ∧ old.first ≤ now.first ∧ F.endN old ≤ F.endN now := by
  simp only [F.folOK, F.le, Bool.and_eq_true, decide_eq_true_eq] at h
  exact ⟨h.1.1.1, h.1.1.2, h.1.2, h.2⟩

theorem F.endN_def (l : Lst) : IntKind.i64.wrap (l.first + (l.entries.length : Int)) = F.endN l := rfl

theorem F.endN_eq {l : Lst} (h : F.check l = 0) : F.endN l = l.first + l.entries.length := by
  obtain ⟨h1, _, _, h2, _⟩ := F.check_ok h
  exact M.wrap_id (by omega) (by omega)

theorem F.folX_len (old now : Lst) : (F.folX old now).length = min (old.entries.length - (now.first - old.first).toNat) now.entries.length := by
  simp only [F.folX, List.length_zip, List.length_drop, F.bn_len]
  omega

theorem F.folX_at {old now : Lst} {k : Nat} {y : (Ent × Ent) × (Int × Int)} (h : (F.folX old now)[k]? = some y) :
    old.entries[(now.first - old.first).toNat + k]? = some y.1.1 ∧ now.entries[k]? = some y.1.2 ∧ (F.bn old)[(now.first - old.first).toNat + k]? = some y.2.1 ∧ (F.bn now)[k]? = some y.2.2 := by
  obtain ⟨h1, h2⟩ := F.zip_at h
  obtain ⟨a1, a2⟩ := F.zip_at h1
  obtain ⟨a3, a4⟩ := F.zip_at h2
  rw [List.getElem?_drop] at a1 a3
  exact ⟨a1, a2, a3, a4⟩

namespace M

def stEqS (a : List ByteArray) (b : List ByteArray) (k : Nat) : St := ⟨[(13, vI k), (12, vI a.length), (1, .sl (b.map eStr)), (0, .sl (a.map eStr))], []⟩

def stEqS1 (a : (List ByteArray) × (List ByteArray) × Nat) : St := stEqS a.1 a.2.1 a.2.2

theorem stEqS_inj (a a' : (List ByteArray) × (List ByteArray) × Nat) (h : stEqS1 a = stEqS1 a') : a = a' := by
  simp only [stEqS1, stEqS] at h
  try simp [strs_inj, ents_inj, eEnt_iff, eLst_iff, ints_inj, eTrn_iff] at h
  grind

theorem unstEqS (a : List ByteArray) (b : List ByteArray) (k : Nat) : unenc stEqS1 (St.mk [(13, (vI (↑k : Int))), (12, (vI (↑(List.length a) : Int))), (1, AV.sl (List.map eStr b)), (0, AV.sl (List.map eStr a))] []) = some (a, b, k) := unenc_of stEqS_inj (a, b, k) rfl

theorem unstEqS0 (a : List ByteArray) (b : List ByteArray)  : unenc stEqS1 (St.mk [(13, (vI (0 : Int))), (12, (vI (↑(List.length a) : Int))), (1, AV.sl (List.map eStr b)), (0, AV.sl (List.map eStr a))] []) = some (a, b, 0) := unenc_of stEqS_inj (a, b, 0) rfl

def outEqS (a : List ByteArray) (b : List ByteArray) (k : Nat) : T (Ex × St) := .ifB (F.sameSs ((a.zip b).drop k)) (.ret (.exit 0, ⟨[], []⟩)) (.ret (.ret, ⟨[(4, vB false)], []⟩))

noncomputable def prlEqS (a : List ByteArray) (b : List ByteArray) (k : Nat) : Bool := decide (a.length ≤ 9223372036854775807) && decide (k ≤ a.length) && decide (a.length = b.length)

noncomputable def lpEqS : Nat × (St → T (Ex × St)) := (4, lpo [13, 12, 1, 0] [] stEqS1 (fun a => prlEqS a.1 a.2.1 a.2.2) fun a => outEqS a.1 a.2.1 a.2.2)

noncomputable def enEqS : Env := envH ty noG lks [] [] [] [lpEqS]

theorem enEqS_ok : EnvOK Tryz.prog enEqS := by
  refine envH_ok lks_ok ty_ok ?_ ?_
  · simp
  · simp

theorem evEqSL (a : List ByteArray) (b : List ByteArray) (k : Nat) : ((exec enEqS (loopN Tryz.f91 0) (stEqS a b k)).bind (lessX ([13, 12, 1, 0], []) ([], []) ([4], []))).val =
  bif decide ((↑k : Int) < (↑(List.length a) : Int)) then Option.bind (unenc (List.map eStr) (List.map eStr a)) fun (z : List ByteArray) => bif decide (k < List.length z)
  then Option.bind (unenc (List.map eStr) (List.map eStr b)) fun (z_1 : List ByteArray) => bif decide (k < List.length z_1) then bif !ByteArray.toList (List.getD z k
  (ByteArray.mk (Array.mk []))) == ByteArray.toList (List.getD z_1 k (ByteArray.mk (Array.mk []))) then some (Ex.ret, St.mk [(4, (vB false))] []) else some (Ex.normal, St.mk
  [(13, (vI (IntKind.wrap IntKind.i64 ((↑k : Int) + (1 : Int))))), (12, (vI (↑(List.length a) : Int))), (1, AV.sl (List.map eStr b)), (0, AV.sl (List.map eStr a))] []) else
  none else none else some (Ex.exit (0 : Nat), St.mk [] []) := by kernel_rfl

theorem lpEqS_ok (a : List ByteArray) (b : List ByteArray) (k : Nat) (hp : prlEqS a b k = true) : ∀ ex s', (outEqS a b k).val = some (ex, s') → LoopOK enEqS (loopN Tryz.f91 0) (stEqS a b k) ex s' := by
  simp only [prlEqS, Bool.and_eq_true, decide_eq_true_eq] at hp
  obtain ⟨⟨h1, h2⟩, h3⟩ := hp
  have hz : (a.zip b).length = a.length := by rw [List.length_zip]; omega
  refine loop_all (xs := a.zip b) (st := stEqS a b) (p := fun p => F.seq p.1 p.2) (n := ([13, 12, 1, 0], [])) (e := ([], [])) (r := ([4], [])) ?_ ⟨by simp, rfl⟩ ⟨by simp, rfl⟩ (fun _ => rfl) ?_ k (by omega)
  · rw [hz]; rw [evEqSL]; simp
  · intro k y hy
    obtain ⟨ha, hb⟩ := F.zip_at hy
    have hlt := lt_at ha
    have hlt' := lt_at hb
    rw [evEqSL]
    simp only [unstEqS, unstEqS0, prlEqS, outEqS, etaEnt, etaLst, Option.bind_some, List.length_map, unStrs, unInts, unBools, unEnts, unItms, unTrns, cond_true, cond_false, Bool.and_true, Bool.true_and, cast_lt hlt, decide_eq_true hlt, decide_eq_true hlt', next_at hlt h1, getD_at ha, getD_at hb, stEqS, F.seq, bne]
    cases (y.1.toList == y.2.toList) <;> rfl

theorem evEqS (a : List ByteArray) (b : List ByteArray) : (runF enEqS false Tryz.f91 [.sl (a.map eStr), .sl (b.map eStr)]).val =
  bif (↑(List.length (List.map eStr a)) : Int) != (↑(List.length (List.map eStr b)) : Int) then some ((vB false), []) else Option.bind (unenc stEqS1 (St.mk [(13, (vI (0 :
  Int))), (12, (vI (↑(List.length (List.map eStr a)) : Int))), (1, AV.sl (List.map eStr b)), (0, AV.sl (List.map eStr a))] [])) fun (z : List ByteArray × List ByteArray ×
  Nat) => bif decide (List.length z.fst ≤ (9223372036854775807 : Nat)) && decide (z.snd.snd ≤ List.length z.fst) && decide (List.length z.fst = List.length z.snd.fst) &&
  true then bif F.sameSs (List.drop z.snd.snd (List.zip z.fst z.snd.fst)) then some ((vB true), []) else some ((vB false), []) else none := by kernel_rfl

def encEqS1 (a : List ByteArray) (b : List ByteArray) : List AV := [.sl (a.map eStr), .sl (b.map eStr)]

def encEqS (a : (List ByteArray) × (List ByteArray)) : List AV := encEqS1 a.1 a.2

theorem encEqS_inj (a a' : (List ByteArray) × (List ByteArray)) (h : encEqS a = encEqS a') : a = a' := by
  simp only [encEqS, encEqS1] at h
  try simp [strs_inj, ents_inj, eEnt_iff, eLst_iff, ints_inj, eTrn_iff] at h
  grind

theorem unEqS (a : List ByteArray) (b : List ByteArray) : unenc encEqS ([AV.sl (List.map eStr a), AV.sl (List.map eStr b)]) = some (a, b) := unenc_of encEqS_inj (a, b) rfl

def resEqS1 (a : List ByteArray) (b : List ByteArray) : AV × Heap := (vB (F.sameSL a b), [])

def preEqS1 (a : List ByteArray) (b : List ByteArray) : Bool := true

noncomputable def oEqS : Orc := orc 91 true encEqS (fun a => preEqS1 a.1 a.2) fun a => resEqS1 a.1 a.2

theorem okEqS : OrcOK Tryz.prog noG oEqS := by
  refine mk_ok Tryz.f91 (keep := false) (by kernel_rfl) (by kernel_rfl) enEqS_ok mixed (one_loop (x0 := loopN Tryz.f91 0) (by kernel_rfl) (lpo_ok ?_)) (by first | exact fun _ _ => ⟨rfl, rfl⟩ | (intro h; cases h)) ?_
  · rintro ⟨a, b, k⟩ hp
    exact lpEqS_ok a b k hp
  rintro ⟨a, b⟩ hpre hok
  show (runF enEqS false _ (encEqS1 _ _)).val = some (resEqS1 _ _)
  unfold encEqS1 resEqS1
  rw [evEqS]
  have hx : a.length ≤ 9223372036854775807 := by simpa using (okA_sl (hok _ (List.mem_cons_self ..))).1
  simp only [unstEqS, unstEqS0, prlEqS, outEqS, etaEnt, etaLst, Option.bind_some, List.length_map, unStrs, unInts, unBools, unEnts, unItms, unTrns, cond_true, cond_false, Bool.and_true, Bool.true_and, F.sameSL, hx, List.drop_zero, Nat.zero_le, decide_true, F.len_eq, bne]
  cases decide (a.length = b.length) <;> cases F.sameSs (a.zip b) <;> rfl

noncomputable def enLsE : Env := envH ty noG lks [oEqS] [] [] []

theorem enLsE_ok : EnvOK Tryz.prog enLsE := by
  refine envH_ok lks_ok ty_ok ?_ ?_
  · simp only [List.forall_mem_cons]
    exact ⟨okEqS, by simp⟩
  · simp

theorem evLsE (a : Ent) (b : Ent) : (runF enLsE false Tryz.f68 [.agg (eEnt a), .agg (eEnt b)]).val =
  bif bif bif bif bif bif ByteArray.toList a.uri == ByteArray.toList b.uri then a.milli == b.milli else false then a.brk == b.brk else false then a.date == b.date else false
  then ByteArray.toList a.key == ByteArray.toList b.key else false then a.gap == b.gap else false then Option.bind (unenc encEqS [AV.sl (List.map eStr a.extra), AV.sl
  (List.map eStr b.extra)]) fun (z : List ByteArray × List ByteArray) => some ((vB (bif bif bif bif bif bif ByteArray.toList a.uri == ByteArray.toList b.uri then a.milli ==
  b.milli else false then a.brk == b.brk else false then a.date == b.date else false then ByteArray.toList a.key == ByteArray.toList b.key else false then a.gap == b.gap
  else false then F.sameSL z.fst z.snd else false)), []) else some ((vB false), []) := by kernel_rfl

def encLsE1 (a : Ent) (b : Ent) : List AV := [.agg (eEnt a), .agg (eEnt b)]

def encLsE (a : Ent × Ent) : List AV := encLsE1 a.1 a.2

theorem encLsE_inj (a a' : Ent × Ent) (h : encLsE a = encLsE a') : a = a' := by
  simp only [encLsE, encLsE1] at h
  try simp [strs_inj, ents_inj, eEnt_iff, eLst_iff, ints_inj, eTrn_iff] at h
  grind

theorem unLsE (a : Ent) (b : Ent) : unenc encLsE ([AV.agg [(vS a.uri), (vI a.milli), (vB a.brk), (vI a.date), (vS a.key), (vB a.gap), AV.sl (List.map eStr a.extra)], AV.agg [(vS b.uri), (vI b.milli), (vB b.brk), (vI
  b.date), (vS b.key), (vB b.gap), AV.sl (List.map eStr b.extra)]]) = some (a, b) := unenc_of encLsE_inj (a, b) rfl

theorem unLsEw (a_uri : ByteArray) (a_milli : Int) (a_brk : Bool) (a_date : Int) (a_key : ByteArray) (a_gap : Bool) (a_extra : List ByteArray) (b_uri : ByteArray) (b_milli : Int) (b_brk : Bool) (b_date : Int) (b_key : ByteArray) (b_gap : Bool) (b_extra : List ByteArray) : unenc encLsE ([AV.agg [(vS a_uri), (vI a_milli), (vB a_brk), (vI a_date), (vS a_key), (vB a_gap), AV.sl (List.map eStr a_extra)], AV.agg [(vS b_uri), (vI b_milli), (vB b_brk), (vI
  b_date), (vS b_key), (vB b_gap), AV.sl (List.map eStr b_extra)]]) = some ((Ent.mk a_uri a_milli a_brk a_date a_key a_gap a_extra), (Ent.mk b_uri b_milli b_brk b_date b_key b_gap b_extra)) := unenc_of encLsE_inj ((Ent.mk a_uri a_milli a_brk a_date a_key a_gap a_extra), (Ent.mk b_uri b_milli b_brk b_date b_key b_gap b_extra)) rfl

def resLsE1 (a : Ent) (b : Ent) : AV × Heap := (vB (F.sameE a b), [])

def preLsE1 (a : Ent) (b : Ent) : Bool := true

noncomputable def oLsE : Orc := orc 68 true encLsE (fun a => preLsE1 a.1 a.2) fun a => resLsE1 a.1 a.2

theorem okLsE : OrcOK Tryz.prog noG oLsE := by
  refine mk_ok Tryz.f68 (keep := false) (by kernel_rfl) (by kernel_rfl) enLsE_ok mixed (no_loops (by kernel_rfl)) (by first | exact fun _ _ => ⟨rfl, rfl⟩ | (intro h; cases h)) ?_
  rintro ⟨a, b⟩ hpre hok
  show (runF enLsE false _ (encLsE1 _ _)).val = some (resLsE1 _ _)
  unfold encLsE1 resLsE1
  rw [evLsE]
  simp only [unEqS, preEqS1, etaEnt, etaLst, Option.bind_some, List.length_map, unStrs, unInts, unBools, unEnts, unItms, unTrns, cond_true, cond_false, Bool.and_true, Bool.true_and, F.sameE, F.seq, F.sameSL, Bool.and_assoc]
  cases a.uri.toList == b.uri.toList <;> cases a.milli == b.milli <;> cases a.brk == b.brk <;> cases a.date == b.date <;> cases a.key.toList == b.key.toList <;> cases a.gap == b.gap <;> rfl

def stEqE (a : List Ent) (b : List Ent) (k : Nat) : St := ⟨[(17, vI k), (16, vI a.length), (15, .sl (a.map eEnt)), (2, .fn 68 []), (1, .sl (b.map eEnt))], []⟩

def stEqE1 (a : (List Ent) × (List Ent) × Nat) : St := stEqE a.1 a.2.1 a.2.2

theorem stEqE_inj (a a' : (List Ent) × (List Ent) × Nat) (h : stEqE1 a = stEqE1 a') : a = a' := by
  simp only [stEqE1, stEqE] at h
  try simp [strs_inj, ents_inj, eEnt_iff, eLst_iff, ints_inj, eTrn_iff] at h
  grind

theorem unstEqE (a : List Ent) (b : List Ent) (k : Nat) : unenc stEqE1 (St.mk [(17, (vI (↑k : Int))), (16, (vI (↑(List.length a) : Int))), (15, AV.sl (List.map eEnt a)), (2, AV.fn (68 : FuncId) []), (1, AV.sl (List.map eEnt b))] []) = some (a, b, k) := unenc_of stEqE_inj (a, b, k) rfl

theorem unstEqE0 (a : List Ent) (b : List Ent)  : unenc stEqE1 (St.mk [(17, (vI (0 : Int))), (16, (vI (↑(List.length a) : Int))), (15, AV.sl (List.map eEnt a)), (2, AV.fn (68 : FuncId) []), (1, AV.sl (List.map eEnt b))] []) = some (a, b, 0) := unenc_of stEqE_inj (a, b, 0) rfl

def outEqE (a : List Ent) (b : List Ent) (k : Nat) : T (Ex × St) := .ifB (F.sameEs ((a.zip b).drop k)) (.ret (.exit 0, ⟨[], []⟩)) (.ret (.ret, ⟨[(6, vB false)], []⟩))

noncomputable def prlEqE (a : List Ent) (b : List Ent) (k : Nat) : Bool := decide (a.length ≤ 9223372036854775807) && decide (k ≤ a.length) && decide (a.length = b.length)

noncomputable def lpEqE : Nat × (St → T (Ex × St)) := (4, lpo [17, 16, 15, 2, 1] [] stEqE1 (fun a => prlEqE a.1 a.2.1 a.2.2) fun a => outEqE a.1 a.2.1 a.2.2)

noncomputable def enEqE : Env := envH ty noG lks [oLsE] [] [] [lpEqE]

theorem enEqE_ok : EnvOK Tryz.prog enEqE := by
  refine envH_ok lks_ok ty_ok ?_ ?_
  · simp only [List.forall_mem_cons]
    exact ⟨okLsE, by simp⟩
  · simp

theorem evEqEL (a : List Ent) (b : List Ent) (k : Nat) : ((exec enEqE (loopN Tryz.f90 0) (stEqE a b k)).bind (lessX ([17, 16, 15, 2, 1], []) ([], []) ([6], []))).val =
  (fun (q : Ent) => bif decide ((↑k : Int) < (↑(List.length a) : Int)) then Option.bind (unenc (List.map eEnt) (List.map eEnt a)) fun (z : List Ent) => bif decide (k <
  List.length z) then Option.bind (unenc (List.map eEnt) (List.map eEnt b)) fun (z_1 : List Ent) => bif decide (k < List.length z_1) then Option.bind (unenc encLsE [AV.agg
  [(vS (List.getD z k q).uri), (vI (List.getD z k q).milli), (vB (List.getD z k q).brk), (vI (List.getD z k q).date), (vS (List.getD z k q).key), (vB (List.getD z k q).gap),
  AV.sl (List.map eStr (List.getD z k q).extra)], AV.agg [(vS (List.getD z_1 k q).uri), (vI (List.getD z_1 k q).milli), (vB (List.getD z_1 k q).brk), (vI (List.getD z_1 k
  q).date), (vS (List.getD z_1 k q).key), (vB (List.getD z_1 k q).gap), AV.sl (List.map eStr (List.getD z_1 k q).extra)]]) fun (z : Ent × Ent) => bif !F.sameE z.fst z.snd
  then some (Ex.ret, St.mk [(6, (vB false))] []) else some (Ex.normal, St.mk [(17, (vI (IntKind.wrap IntKind.i64 ((↑k : Int) + (1 : Int))))), (16, (vI (↑(List.length a) :
  Int))), (15, AV.sl (List.map eEnt a)), (2, AV.fn (68 : FuncId) []), (1, AV.sl (List.map eEnt b))] []) else none else none else some (Ex.exit (0 : Nat), St.mk [] []))
  (Ent.mk (ByteArray.mk (Array.mk [])) (0 : Int) false (0 : Int) (ByteArray.mk (Array.mk [])) false []) := by kernel_rfl

theorem lpEqE_ok (a : List Ent) (b : List Ent) (k : Nat) (hp : prlEqE a b k = true) : ∀ ex s', (outEqE a b k).val = some (ex, s') → LoopOK enEqE (loopN Tryz.f90 0) (stEqE a b k) ex s' := by
  simp only [prlEqE, Bool.and_eq_true, decide_eq_true_eq] at hp
  obtain ⟨⟨h1, h2⟩, h3⟩ := hp
  have hz : (a.zip b).length = a.length := by rw [List.length_zip]; omega
  refine loop_all (xs := a.zip b) (st := stEqE a b) (p := fun p => F.sameE p.1 p.2) (n := ([17, 16, 15, 2, 1], [])) (e := ([], [])) (r := ([6], [])) ?_ ⟨by simp, rfl⟩ ⟨by simp, rfl⟩ (fun _ => rfl) ?_ k (by omega)
  · rw [hz]; rw [evEqEL]; simp
  · intro k y hy
    obtain ⟨ha, hb⟩ := F.zip_at hy
    have hlt := lt_at ha
    have hlt' := lt_at hb
    rw [evEqEL]
    simp only [unLsE, unLsEw, preLsE1, unstEqE, unstEqE0, prlEqE, outEqE, etaEnt, etaLst, Option.bind_some, List.length_map, unStrs, unInts, unBools, unEnts, unItms, unTrns, cond_true, cond_false, Bool.and_true, Bool.true_and, cast_lt hlt, decide_eq_true hlt, decide_eq_true hlt', next_at hlt h1, getD_at ha, getD_at hb, stEqE]
    cases F.sameE y.1 y.2 <;> rfl

theorem evEqE (a : List Ent) (b : List Ent) : (runF enEqE false Tryz.f90 [.sl (a.map eEnt), .sl (b.map eEnt), .fn 68 []]).val =
  bif (↑(List.length (List.map eEnt a)) : Int) != (↑(List.length (List.map eEnt b)) : Int) then some ((vB false), []) else Option.bind (unenc stEqE1 (St.mk [(17, (vI (0 :
  Int))), (16, (vI (↑(List.length (List.map eEnt a)) : Int))), (15, AV.sl (List.map eEnt a)), (2, AV.fn (68 : FuncId) []), (1, AV.sl (List.map eEnt b))] [])) fun (z : List
  Ent × List Ent × Nat) => bif decide (List.length z.fst ≤ (9223372036854775807 : Nat)) && decide (z.snd.snd ≤ List.length z.fst) && decide (List.length z.fst = List.length
  z.snd.fst) && true then bif F.sameEs (List.drop z.snd.snd (List.zip z.fst z.snd.fst)) then some ((vB true), []) else some ((vB false), []) else none := by kernel_rfl

def encEqE1 (a : List Ent) (b : List Ent) : List AV := [.sl (a.map eEnt), .sl (b.map eEnt), .fn 68 []]

def encEqE (a : (List Ent) × (List Ent)) : List AV := encEqE1 a.1 a.2

theorem encEqE_inj (a a' : (List Ent) × (List Ent)) (h : encEqE a = encEqE a') : a = a' := by
  simp only [encEqE, encEqE1] at h
  try simp [strs_inj, ents_inj, eEnt_iff, eLst_iff, ints_inj, eTrn_iff] at h
  grind

theorem unEqE (a : List Ent) (b : List Ent) : unenc encEqE ([AV.sl (List.map eEnt a), AV.sl (List.map eEnt b), AV.fn (68 : FuncId) []]) = some (a, b) := unenc_of encEqE_inj (a, b) rfl

def resEqE1 (a : List Ent) (b : List Ent) : AV × Heap := (vB (F.sameEL a b), [])

def preEqE1 (a : List Ent) (b : List Ent) : Bool := true

noncomputable def oEqE : Orc := orc 90 true encEqE (fun a => preEqE1 a.1 a.2) fun a => resEqE1 a.1 a.2

theorem okEqE : OrcOK Tryz.prog noG oEqE := by
  refine mk_ok Tryz.f90 (keep := false) (by kernel_rfl) (by kernel_rfl) enEqE_ok mixed (one_loop (x0 := loopN Tryz.f90 0) (by kernel_rfl) (lpo_ok ?_)) (by first | exact fun _ _ => ⟨rfl, rfl⟩ | (intro h; cases h)) ?_
  · rintro ⟨a, b, k⟩ hp
    exact lpEqE_ok a b k hp
  rintro ⟨a, b⟩ hpre hok
  show (runF enEqE false _ (encEqE1 _ _)).val = some (resEqE1 _ _)
  unfold encEqE1 resEqE1
  rw [evEqE]
  have hx : a.length ≤ 9223372036854775807 := by simpa using (okA_sl (hok _ (List.mem_cons_self ..))).1
  simp only [unLsE, unLsEw, preLsE1, unstEqE, unstEqE0, prlEqE, outEqE, etaEnt, etaLst, Option.bind_some, List.length_map, unStrs, unInts, unBools, unEnts, unItms, unTrns, cond_true, cond_false, Bool.and_true, Bool.true_and, F.sameEL, hx, List.drop_zero, Nat.zero_le, decide_true, F.len_eq, bne]
  cases decide (a.length = b.length) <;> cases F.sameEs (a.zip b) <;> rfl

noncomputable def enLsL : Env := envH ty noG lks [oEqE] [] [] []

theorem enLsL_ok : EnvOK Tryz.prog enLsL := by
  refine envH_ok lks_ok ty_ok ?_ ?_
  · simp only [List.forall_mem_cons]
    exact ⟨okEqE, by simp⟩
  · simp

theorem evLsL (a : Lst) (b : Lst) : (runF enLsL false Tryz.f66 [.agg (eLst a), .agg (eLst b)]).val =
  bif bif bif bif a.target == b.target then a.first == b.first else false then a.breaks == b.breaks else false then a.ended == b.ended else false then Option.bind (unenc
  encEqE [AV.sl (List.map eEnt a.entries), AV.sl (List.map eEnt b.entries), AV.fn (68 : Nat) []]) fun (z : List Ent × List Ent) => some ((vB (bif bif bif bif a.target ==
  b.target then a.first == b.first else false then a.breaks == b.breaks else false then a.ended == b.ended else false then F.sameEL z.fst z.snd else false)), []) else some
  ((vB false), []) := by kernel_rfl

def encLsL1 (a : Lst) (b : Lst) : List AV := [.agg (eLst a), .agg (eLst b)]

def encLsL (a : Lst × Lst) : List AV := encLsL1 a.1 a.2

theorem encLsL_inj (a a' : Lst × Lst) (h : encLsL a = encLsL a') : a = a' := by
  simp only [encLsL, encLsL1] at h
  try simp [strs_inj, ents_inj, eEnt_iff, eLst_iff, ints_inj, eTrn_iff] at h
  grind

theorem unLsL (a : Lst) (b : Lst) : unenc encLsL ([AV.agg [(vI a.target), (vI a.first), (vI a.breaks), AV.sl (List.map eEnt a.entries), (vB a.ended)], AV.agg [(vI b.target), (vI b.first), (vI b.breaks), AV.sl (List.map
  eEnt b.entries), (vB b.ended)]]) = some (a, b) := unenc_of encLsL_inj (a, b) rfl

theorem unLsLw (a_target : Int) (a_first : Int) (a_breaks : Int) (a_entries : List Ent) (a_ended : Bool) (b_target : Int) (b_first : Int) (b_breaks : Int) (b_entries : List Ent) (b_ended : Bool) : unenc encLsL ([AV.agg [(vI a_target), (vI a_first), (vI a_breaks), AV.sl (List.map eEnt a_entries), (vB a_ended)], AV.agg [(vI b_target), (vI b_first), (vI b_breaks), AV.sl (List.map
  eEnt b_entries), (vB b_ended)]]) = some ((Lst.mk a_target a_first a_breaks a_entries a_ended), (Lst.mk b_target b_first b_breaks b_entries b_ended)) := unenc_of encLsL_inj ((Lst.mk a_target a_first a_breaks a_entries a_ended), (Lst.mk b_target b_first b_breaks b_entries b_ended)) rfl

def resLsL1 (a : Lst) (b : Lst) : AV × Heap := (vB (F.sameL a b), [])

def preLsL1 (a : Lst) (b : Lst) : Bool := true

noncomputable def oLsL : Orc := orc 66 true encLsL (fun a => preLsL1 a.1 a.2) fun a => resLsL1 a.1 a.2

theorem okLsL : OrcOK Tryz.prog noG oLsL := by
  refine mk_ok Tryz.f66 (keep := false) (by kernel_rfl) (by kernel_rfl) enLsL_ok mixed (no_loops (by kernel_rfl)) (by first | exact fun _ _ => ⟨rfl, rfl⟩ | (intro h; cases h)) ?_
  rintro ⟨a, b⟩ hpre hok
  show (runF enLsL false _ (encLsL1 _ _)).val = some (resLsL1 _ _)
  unfold encLsL1 resLsL1
  rw [evLsL]
  simp only [unEqE, preEqE1, etaEnt, etaLst, Option.bind_some, List.length_map, unStrs, unInts, unBools, unEnts, unItms, unTrns, cond_true, cond_false, Bool.and_true, Bool.true_and, F.sameL, F.sameEL, Bool.and_assoc]
  cases a.target == b.target <;> cases a.first == b.first <;> cases a.breaks == b.breaks <;> cases a.ended == b.ended <;> rfl

def stBns (es : List Ent) (b : Int) (acc : List Int) (k : Nat) : St := ⟨[(12, vI k), (11, vI es.length), (10, .sl (es.map eEnt)), (4, .own 4), (3, vI b)], [(4, ⟨false, 3, 1, acc.map eI⟩)]⟩

def stBns1 (a : (List Ent) × Int × (List Int) × Nat) : St := stBns a.1 a.2.1 a.2.2.1 a.2.2.2

theorem stBns_inj (a a' : (List Ent) × Int × (List Int) × Nat) (h : stBns1 a = stBns1 a') : a = a' := by
  simp only [stBns1, stBns] at h
  try simp [strs_inj, ents_inj, eEnt_iff, eLst_iff, ints_inj, eTrn_iff] at h
  grind

theorem unstBns (es : List Ent) (b : Int) (acc : List Int) (k : Nat) : unenc stBns1 (St.mk [(12, (vI (↑k : Int))), (11, (vI (↑(List.length es) : Int))), (10, AV.sl (List.map eEnt es)), (4, .own 4), (3, (vI b))] [(4, Blk.mk false 3 1 (List.map eI acc))]) = some (es, b, acc, k) := unenc_of stBns_inj (es, b, acc, k) rfl

theorem unstBns0 (es : List Ent) (b : Int)  : unenc stBns1 (St.mk [(12, (vI (0 : Int))), (11, (vI (↑(List.length es) : Int))), (10, AV.sl (List.map eEnt es)), (4, .own 4), (3, (vI b))] [(4, Blk.mk false 3 1 [])]) = some (es, b, [], 0) := unenc_of stBns_inj (es, b, [], 0) rfl

def outBns (es : List Ent) (b : Int) (acc : List Int) (k : Nat) : T (Ex × St) := .ret (.exit 0, ⟨[(4, .own 4)], [(4, ⟨false, 3, 1, (F.bnA b acc (es.drop k)).map eI⟩)]⟩)

noncomputable def prlBns (es : List Ent) (b : Int) (acc : List Int) (k : Nat) : Bool := decide (es.length ≤ 100000) && decide (k ≤ es.length) && decide (acc.length ≤ k)

noncomputable def lpBns : Nat × (St → T (Ex × St)) := (4, lpo [12, 11, 10, 4, 3] [4] stBns1 (fun a => prlBns a.1 a.2.1 a.2.2.1 a.2.2.2) fun a => outBns a.1 a.2.1 a.2.2.1 a.2.2.2)

noncomputable def enBns : Env := envH ty noG lks [] [] [] [lpBns]

theorem enBns_ok : EnvOK Tryz.prog enBns := by
  refine envH_ok lks_ok ty_ok ?_ ?_
  · simp
  · simp

theorem appInts (xs : List Int) (n : Int) : xs.map eI ++ [[vI n]] = (xs ++ [n]).map eI := by simp [eI]

theorem evBnsL (es : List Ent) (b : Int) (acc : List Int) (k : Nat) : ((exec enBns (loopN Tryz.f67 0) (stBns es b acc k)).bind (lessX ([12, 11, 10, 4, 3], [4]) ([4], [4]) ([], []))).val =
  bif decide ((↑k : Int) < (↑(List.length es) : Int)) then Option.bind (unenc (List.map eEnt) (List.map eEnt es)) fun (z : List Ent) => bif decide (k < List.length z) then
  bif (List.getD z k (Ent.mk (ByteArray.mk (Array.mk [])) (0 : Int) false (0 : Int) (ByteArray.mk (Array.mk [])) false [])).brk then bif Nat.ble ((List.length (List.map eI
  acc) + (1 : Nat)) * (8 : Nat)) (140737488355328 : Nat) && true then some (Ex.normal, St.mk [(12, (vI (IntKind.wrap IntKind.i64 ((↑k : Int) + (1 : Int))))), (11, (vI
  (↑(List.length es) : Int))), (10, AV.sl (List.map eEnt es)), (4, .own 4), (3, (vI (IntKind.wrap IntKind.i64 (b + (1 : Int)))))] [(4, Blk.mk false 3 1 (List.map eI acc ++
  [[(vI (IntKind.wrap IntKind.i64 (b + (1 : Int))))]]))]) else none else bif Nat.ble ((List.length (List.map eI acc) + (1 : Nat)) * (8 : Nat)) (140737488355328 : Nat) &&
  true then some (Ex.normal, St.mk [(12, (vI (IntKind.wrap IntKind.i64 ((↑k : Int) + (1 : Int))))), (11, (vI (↑(List.length es) : Int))), (10, AV.sl (List.map eEnt es)), (4,
  .own 4), (3, (vI b))] [(4, Blk.mk false 3 1 (List.map eI acc ++ [[(vI b)]]))]) else none else none else some (Ex.exit (0 : Nat), St.mk [(4, .own 4)] [(4, Blk.mk false 3 1
  (List.map eI acc))]) := by kernel_rfl

theorem lpBns_ok (es : List Ent) (b : Int) (acc : List Int) (k : Nat) (hp : prlBns es b acc k = true) : ∀ ex s', (outBns es b acc k).val = some (ex, s') → LoopOK enBns (loopN Tryz.f67 0) (stBns es b acc k) ex s' := by
  simp only [prlBns, Bool.and_eq_true, decide_eq_true_eq] at hp
  obtain ⟨⟨h1, h2⟩, h3⟩ := hp
  refine loop_fold (xs := es) (st := fun a k => stBns es a.1 a.2 k) (f := F.bnS) (fin := fun a => (.exit 0, ⟨[(4, .own 4)], [(4, ⟨false, 3, 1, a.2.map eI⟩)]⟩)) (I := fun a k => a.2.length ≤ k) (n := ([12, 11, 10, 4, 3], [4])) (e := ([4], [4])) (r := ([], [])) ?_ (fun _ => ⟨by simp, rfl⟩) (fun _ _ => rfl) ?_ (b, acc) k h2 h3
  · rintro ⟨b, acc⟩ _
    rw [evBnsL]; simp
  · rintro ⟨b, acc⟩ k y hy hI
    simp only at hI
    have hlt := lt_at hy
    have hroom : Nat.ble ((acc.length + 1) * 8) 140737488355328 = true := ble_t (by omega)
    refine ⟨?_, ?_⟩
    · rw [evBnsL]
      simp only [unstBns, unstBns0, prlBns, outBns, etaEnt, etaLst, Option.bind_some, List.length_map, unStrs, unInts, unBools, unEnts, unItms, unTrns, cond_true, cond_false, Bool.and_true, Bool.true_and, cast_lt hlt, decide_eq_true hlt, next_at hlt (by omega : es.length ≤ 9223372036854775807), getD_at hy, stBns, hroom, F.bnS, appInts]
      cases y.brk <;> rfl
    · simp only [F.bnS]
      cases y.brk <;> simp <;> omega

theorem evBns (l : Lst) : (runF enBns false Tryz.f67 [.agg (eLst l)]).val =
  Option.bind (unenc stBns1 (St.mk [(12, (vI (0 : Int))), (11, (vI (↑(List.length (List.map eEnt l.entries)) : Int))), (10, AV.sl (List.map eEnt l.entries)), (4, .own 4),
  (3, (vI l.breaks))] [(4, Blk.mk false 3 1 [])])) fun (z : List Ent × Int × List Int × Nat) => bif decide (List.length z.fst ≤ (100000 : Nat)) && decide (z.snd.snd.snd ≤
  List.length z.fst) && decide (List.length z.snd.snd.fst ≤ z.snd.snd.snd) && true then some (AV.sl (List.map eI (F.bnA z.snd.fst z.snd.snd.fst (List.drop z.snd.snd.snd
  z.fst))), []) else none := by kernel_rfl

def encBns1 (l : Lst) : List AV := [.agg (eLst l)]

def encBns (a : Lst) : List AV := encBns1 a

theorem encBns_inj (a a' : Lst) (h : encBns a = encBns a') : a = a' := by
  simp only [encBns, encBns1] at h
  try simp [strs_inj, ents_inj, eEnt_iff, eLst_iff, ints_inj, eTrn_iff] at h
  grind

theorem unBns (l : Lst) : unenc encBns ([AV.agg [(vI l.target), (vI l.first), (vI l.breaks), AV.sl (List.map eEnt l.entries), (vB l.ended)]]) = some (l) := unenc_of encBns_inj (l) rfl

theorem unBnsw (l_target : Int) (l_first : Int) (l_breaks : Int) (l_entries : List Ent) (l_ended : Bool) : unenc encBns ([AV.agg [(vI l_target), (vI l_first), (vI l_breaks), AV.sl (List.map eEnt l_entries), (vB l_ended)]]) = some ((Lst.mk l_target l_first l_breaks l_entries l_ended)) := unenc_of encBns_inj ((Lst.mk l_target l_first l_breaks l_entries l_ended)) rfl

def resBns1 (l : Lst) : AV × Heap := (.sl ((F.bn l).map eI), [])

def preBns1 (l : Lst) : Bool := decide (l.entries.length ≤ 100000)

noncomputable def oBns : Orc := orc 67 false encBns (fun a => preBns1 a) fun a => resBns1 a

theorem okBns : OrcOK Tryz.prog noG oBns := by
  refine mk_ok Tryz.f67 (keep := false) (by kernel_rfl) (by kernel_rfl) enBns_ok mixed (one_loop (x0 := loopN Tryz.f67 0) (by kernel_rfl) (lpo_ok ?_)) (by first | exact fun _ _ => ⟨rfl, rfl⟩ | (intro h; cases h)) ?_
  · rintro ⟨es, b, acc, k⟩ hp
    exact lpBns_ok es b acc k hp
  rintro l hpre hok
  show (runF enBns false _ (encBns1 _)).val = some (resBns1 _)
  unfold encBns1 resBns1
  rw [evBns]
  simp only [preBns1, decide_eq_true_eq] at hpre
  simp only [unstBns, unstBns0, prlBns, outBns, etaEnt, etaLst, Option.bind_some, List.length_map, unStrs, unInts, unBools, unEnts, unItms, unTrns, cond_true, cond_false, Bool.and_true, Bool.true_and, List.drop_zero, Nat.zero_le, decide_true, F.bn, List.length_nil, List.map_nil, hpre]

def stFst (l : List Int) (k : Nat) : St := ⟨[(7, vI k), (6, vI l.length), (5, .sl (l.map eI))], []⟩

def stFst1 (a : (List Int) × Nat) : St := stFst a.1 a.2

theorem stFst_inj (a a' : (List Int) × Nat) (h : stFst1 a = stFst1 a') : a = a' := by
  simp only [stFst1, stFst] at h
  try simp [strs_inj, ents_inj, eEnt_iff, eLst_iff, ints_inj, eTrn_iff] at h
  grind

theorem unstFst (l : List Int) (k : Nat) : unenc stFst1 (St.mk [(7, (vI (↑k : Int))), (6, (vI (↑(List.length l) : Int))), (5, AV.sl (List.map eI l))] []) = some (l, k) := unenc_of stFst_inj (l, k) rfl

theorem unstFst0 (l : List Int)  : unenc stFst1 (St.mk [(7, (vI (0 : Int))), (6, (vI (↑(List.length l) : Int))), (5, AV.sl (List.map eI l))] []) = some (l, 0) := unenc_of stFst_inj (l, 0) rfl

def outFst (l : List Int) (k : Nat) : T (Ex × St) := .ifB (decide (M.ffI id (l.drop k) = 0)) (.ret (.exit 0, ⟨[], []⟩)) (.ret (.ret, ⟨[(2, vI (M.ffI id (l.drop k)))], []⟩))

noncomputable def prlFst (l : List Int) (k : Nat) : Bool := decide (l.length ≤ 9223372036854775807) && decide (k ≤ l.length)

noncomputable def lpFst : Nat × (St → T (Ex × St)) := (2, lpo [7, 6, 5] [] stFst1 (fun a => prlFst a.1 a.2) fun a => outFst a.1 a.2)

noncomputable def enFst : Env := envH ty noG lks [] [] [] [lpFst]

theorem enFst_ok : EnvOK Tryz.prog enFst := by
  refine envH_ok lks_ok ty_ok ?_ ?_
  · simp
  · simp

theorem evFstL (l : List Int) (k : Nat) : ((exec enFst (loopN Tryz.f40 0) (stFst l k)).bind (lessX ([7, 6, 5], []) ([], []) ([2], []))).val =
  bif decide ((↑k : Int) < (↑(List.length l) : Int)) then Option.bind (unenc (List.map eI) (List.map eI l)) fun (z : List Int) => bif decide (k < List.length z) then bif
  List.getD z k (0 : Int) != (0 : Int) then some (Ex.ret, St.mk [(2, (vI (List.getD z k (0 : Int))))] []) else some (Ex.normal, St.mk [(7, (vI (IntKind.wrap IntKind.i64 ((↑k
  : Int) + (1 : Int))))), (6, (vI (↑(List.length l) : Int))), (5, AV.sl (List.map eI l))] []) else none else some (Ex.exit (0 : Nat), St.mk [] []) := by kernel_rfl

theorem lpFst_ok (l : List Int) (k : Nat) (hp : prlFst l k = true) : ∀ ex s', (outFst l k).val = some (ex, s') → LoopOK enFst (loopN Tryz.f40 0) (stFst l k) ex s' := by
  simp only [prlFst, Bool.and_eq_true, decide_eq_true_eq] at hp
  refine loop_code (xs := l) (st := stFst l) (g := id) (o := fun c => (.ret, ⟨[(2, vI c)], []⟩)) (n := ([7, 6, 5], [])) (e := ([], [])) (r := ([2], [])) ?_ ⟨by simp, rfl⟩ (fun _ => ⟨by simp, rfl⟩) (fun _ => rfl) ?_ k hp.2
  · rw [evFstL]; simp
  · intro k y hy
    have hlt := lt_at hy
    rw [evFstL]
    simp only [unstFst, unstFst0, prlFst, outFst, etaEnt, etaLst, Option.bind_some, List.length_map, unStrs, unInts, unBools, unEnts, unItms, unTrns, cond_true, cond_false, Bool.and_true, Bool.true_and, cast_lt hlt, decide_eq_true hlt, next_at hlt hp.1, getD_at hy, stFst]
    by_cases h : y = 0
    · subst h; rfl
    · have hb : (y != 0) = true := by simp [h]
      simp only [hb, cond_true, id, h, if_false]

theorem evFst (l : List Int) : (runF enFst false Tryz.f40 [.sl (l.map eI)]).val =
  Option.bind (unenc stFst1 (St.mk [(7, (vI (0 : Int))), (6, (vI (↑(List.length (List.map eI l)) : Int))), (5, AV.sl (List.map eI l))] [])) fun (z : List Int × Nat) => bif
  decide (List.length z.fst ≤ (9223372036854775807 : Nat)) && decide (z.snd ≤ List.length z.fst) && true then bif decide (ffI id (List.drop z.snd z.fst) = (0 : Int)) then
  some ((vI (0 : Int)), []) else some ((vI (ffI id (List.drop z.snd z.fst))), []) else none := by kernel_rfl

def encFst1 (l : List Int) : List AV := [.sl (l.map eI)]

def encFst (a : (List Int)) : List AV := encFst1 a

theorem encFst_inj (a a' : (List Int)) (h : encFst a = encFst a') : a = a' := by
  simp only [encFst, encFst1] at h
  try simp [strs_inj, ents_inj, eEnt_iff, eLst_iff, ints_inj, eTrn_iff] at h
  grind

theorem unFst (l : List Int) : unenc encFst ([AV.sl (List.map eI l)]) = some (l) := unenc_of encFst_inj (l) rfl

def resFst1 (l : List Int) : AV × Heap := (vI (M.ffI id l), [])

def preFst1 (l : List Int) : Bool := true

noncomputable def oFst : Orc := orc 40 true encFst (fun a => preFst1 a) fun a => resFst1 a

theorem okFst : OrcOK Tryz.prog noG oFst := by
  refine mk_ok Tryz.f40 (keep := false) (by kernel_rfl) (by kernel_rfl) enFst_ok mixed (one_loop (x0 := loopN Tryz.f40 0) (by kernel_rfl) (lpo_ok ?_)) (by first | exact fun _ _ => ⟨rfl, rfl⟩ | (intro h; cases h)) ?_
  · rintro ⟨l, k⟩ hp
    exact lpFst_ok l k hp
  rintro l hpre hok
  show (runF enFst false _ (encFst1 _)).val = some (resFst1 _)
  unfold encFst1 resFst1
  rw [evFst]
  have hx : l.length ≤ 9223372036854775807 := by simpa using (okA_sl (hok _ (List.mem_cons_self ..))).1
  simp only [unstFst, unstFst0, prlFst, outFst, etaEnt, etaLst, Option.bind_some, List.length_map, unStrs, unInts, unBools, unEnts, unItms, unTrns, cond_true, cond_false, Bool.and_true, Bool.true_and, hx, List.drop_zero, Nat.zero_le, decide_true]
  by_cases h : M.ffI id l = 0 <;> simp [h]

def stFol (old : Lst) (now : Lst) (n : Int) : St := ⟨[(9, vI n), (8, .sl ((F.bn now).map eI)), (7, .sl ((F.bn old).map eI)), (5, vI (F.endN old)), (3, .ptr 3 0 0), (2, .ptr 2 0 0)], [(3, ⟨true, 0, 0, [eLst now]⟩), (2, ⟨true, 0, 0, [eLst old]⟩)]⟩

def stFol1 (a : Lst × Lst × Int) : St := stFol a.1 a.2.1 a.2.2

theorem stFol_inj (a a' : Lst × Lst × Int) (h : stFol1 a = stFol1 a') : a = a' := by
  simp only [stFol1, stFol] at h
  try simp [strs_inj, ents_inj, eEnt_iff, eLst_iff, ints_inj, eTrn_iff] at h
  grind

theorem unstFol (old : Lst) (now : Lst) (n : Int) : unenc stFol1 (St.mk [(9, (vI n)), (8, AV.sl (List.map eI (F.bn now))), (7, AV.sl (List.map eI (F.bn old))), (5, (vI (F.endN old))), (3, .ptr 3 0 0), (2, .ptr 2 0 0)] [(3, Blk.mk true 0
  0 [[(vI now.target), (vI now.first), (vI now.breaks), AV.sl (List.map eEnt now.entries), (vB now.ended)]]), (2, Blk.mk true 0 0 [[(vI old.target), (vI old.first), (vI
  old.breaks), AV.sl (List.map eEnt old.entries), (vB old.ended)]])]) = some (old, now, n) := unenc_of stFol_inj (old, now, n) rfl

def outFol (old : Lst) (now : Lst) (n : Int) : T (Ex × St) := .ifB (decide (F.folL old now n = 0)) (.ret (.exit 1, ⟨[(7, .sl ((F.bn old).map eI)), (5, vI (F.endN old)), (3, .ptr 3 0 0), (2, .ptr 2 0 0)], [(3, ⟨true, 0, 0, [eLst now]⟩), (2, ⟨true, 0, 0, [eLst old]⟩)]⟩)) (.ret (.ret, ⟨[(4, vI (F.folL old now n))], []⟩))

noncomputable def prlFol (old : Lst) (now : Lst) (n : Int) : Bool := F.folOK old now && F.le now.first n && F.le n (max now.first (F.endN old))

noncomputable def lpFol : Nat × (St → T (Ex × St)) := (10, lpo [9, 8, 7, 5, 3, 2] [3, 2] stFol1 (fun a => prlFol a.1 a.2.1 a.2.2) fun a => outFol a.1 a.2.1 a.2.2)

noncomputable def enFol : Env := envH ty noG lks [oLsL, oBns, oLsE] [] [] [lpFol]

theorem enFol_ok : EnvOK Tryz.prog enFol := by
  refine envH_ok lks_ok ty_ok ?_ ?_
  · simp only [List.forall_mem_cons]
    exact ⟨okLsL, okBns, okLsE, by simp⟩
  · simp

theorem evFolL (old : Lst) (now : Lst) (n : Int) : ((exec enFol (loopN Tryz.f41 0) (stFol old now n)).bind (lessX ([9, 8, 7, 5, 3, 2], [3, 2]) ([7, 5, 3, 2], [3, 2]) ([4], []))).val =
  (fun (q : Ent) => (fun (q_1 : List (Nat × AV)) => (fun (q_2 : List (Nat × Blk)) => bif decide (n < F.endN old) then Option.bind (idx (IntKind.wrap IntKind.i64 (n -
  old.first))) fun (z : Nat) => Option.bind (unenc (List.map eEnt) (List.map eEnt old.entries)) fun (z_1 : List Ent) => bif decide (z < List.length z_1) then Option.bind
  (idx (IntKind.wrap IntKind.i64 (n - now.first))) fun (z_2 : Nat) => Option.bind (unenc (List.map eEnt) (List.map eEnt now.entries)) fun (z_3 : List Ent) => bif decide (z_2
  < List.length z_3) then Option.bind (unenc encLsE [AV.agg [(vS (List.getD z_1 z q).uri), (vI (List.getD z_1 z q).milli), (vB (List.getD z_1 z q).brk), (vI (List.getD z_1 z
  q).date), (vS (List.getD z_1 z q).key), (vB (List.getD z_1 z q).gap), AV.sl (List.map eStr (List.getD z_1 z q).extra)], AV.agg [(vS (List.getD z_3 z_2 q).uri), (vI
  (List.getD z_3 z_2 q).milli), (vB (List.getD z_3 z_2 q).brk), (vI (List.getD z_3 z_2 q).date), (vS (List.getD z_3 z_2 q).key), (vB (List.getD z_3 z_2 q).gap), AV.sl
  (List.map eStr (List.getD z_3 z_2 q).extra)]]) fun (z : Ent × Ent) => bif !F.sameE z.fst z.snd then some (Ex.ret, St.mk [(4, (vI (12 : Int)))] []) else Option.bind (idx
  (IntKind.wrap IntKind.i64 (n - old.first))) fun (z : Nat) => Option.bind (unenc (List.map eI) (List.map eI (F.bn old))) fun (z_4 : List Int) => bif decide (z < List.length
  z_4) then Option.bind (idx (IntKind.wrap IntKind.i64 (n - now.first))) fun (z_5 : Nat) => Option.bind (unenc (List.map eI) (List.map eI (F.bn now))) fun (z_6 : List Int)
  => bif decide (z_5 < List.length z_6) then bif List.getD z_4 z (0 : Int) != List.getD z_6 z_5 (0 : Int) then some (Ex.ret, St.mk [(4, (vI (3 : Int)))] []) else some
  (Ex.normal, St.mk ((9, (vI (IntKind.wrap IntKind.i64 (n + (1 : Int))))) :: (8, AV.sl (List.map eI (F.bn now))) :: q_1) q_2) else none else none else none else none else
  some (Ex.exit (1 : Nat), St.mk q_1 q_2)) [(3, Blk.mk true 0 0 [[(vI now.target), (vI now.first), (vI now.breaks), AV.sl (List.map eEnt now.entries), (vB now.ended)]]), (2,
  Blk.mk true 0 0 [[(vI old.target), (vI old.first), (vI old.breaks), AV.sl (List.map eEnt old.entries), (vB old.ended)]])]) [(7, AV.sl (List.map eI (F.bn old))), (5, (vI
  (F.endN old))), (3, .ptr 3 0 0), (2, .ptr 2 0 0)]) (Ent.mk (ByteArray.mk (Array.mk [])) (0 : Int) false (0 : Int) (ByteArray.mk (Array.mk [])) false []) := by kernel_rfl

theorem lpFol_ok (old : Lst) (now : Lst) (n : Int) (hp : prlFol old now n = true) : ∀ ex s', (outFol old now n).val = some (ex, s') → LoopOK enFol (loopN Tryz.f41 0) (stFol old now n) ex s' := by
  simp only [prlFol, Bool.and_eq_true, decide_eq_true_eq] at hp
  obtain ⟨⟨h1, h2⟩, h3⟩ := hp
  obtain ⟨c1, c2, c3, c4⟩ := F.folOK_ok h1
  simp only [F.le, decide_eq_true_eq] at h2 h3
  obtain ⟨o1, _, _, o2, o3⟩ := F.check_ok c1
  obtain ⟨n1, _, _, n2, n3⟩ := F.check_ok c2
  have eo := F.endN_eq c1
  have en := F.endN_eq c2
  rw [eo] at h3 c4
  rw [en] at c4
  have hX := F.folX_len old now
  have key : ∀ k, k ≤ (F.folX old now).length → ∀ ex s', (outFol old now (now.first + k)).val = some (ex, s') → LoopOK enFol (loopN Tryz.f41 0) (stFol old now (now.first + k)) ex s' := by
    have hdr : ∀ k : Nat, outFol old now (now.first + k) = .ifB (decide (M.ffI F.folG ((F.folX old now).drop k) = 0)) (.ret (.exit 1, ⟨[(7, .sl ((F.bn old).map eI)), (5, vI (F.endN old)), (3, .ptr 3 0 0), (2, .ptr 2 0 0)], [(3, ⟨true, 0, 0, [eLst now]⟩), (2, ⟨true, 0, 0, [eLst old]⟩)]⟩)) (.ret (.ret, ⟨[(4, vI (M.ffI F.folG ((F.folX old now).drop k)))], []⟩)) := by
      intro k
      have e : (now.first + (k : Int) - now.first).toNat = k := by omega
      simp only [outFol, F.folL, e]
    intro k hk
    rw [hdr]
    refine loop_code (xs := F.folX old now) (st := fun k => stFol old now (now.first + k)) (g := F.folG) (o := fun c => (.ret, ⟨[(4, vI c)], []⟩)) (n := ([9, 8, 7, 5, 3, 2], [3, 2])) (e := ([7, 5, 3, 2], [3, 2])) (r := ([4], [])) ?_ ⟨by simp, rfl⟩ (fun _ => ⟨by simp, rfl⟩) (fun _ => rfl) ?_ k hk
    · have hno : decide (now.first + ((F.folX old now).length : Int) < F.endN old) = false := decide_eq_false (by rw [eo, hX]; omega)
      rw [evFolL]
      simp only [unLsL, unBns, unLsE, unLsLw, unBnsw, unLsEw, preLsL1, preBns1, preLsE1, unstFol, prlFol, outFol, etaEnt, etaLst, Option.bind_some, List.length_map, unStrs, unInts, unBools, unEnts, unItms, unTrns, cond_true, cond_false, Bool.and_true, Bool.true_and, hno]
      rfl
    · intro k y hy
      obtain ⟨a1, a2, a3, a4⟩ := F.folX_at hy
      have hlt := lt_at hy
      rw [hX] at hlt
      have hyes : decide (now.first + (k : Int) < F.endN old) = true := decide_eq_true (by rw [eo]; omega)
      have i1 : idx (IntKind.i64.wrap (now.first + (k : Int) - old.first)) = some ((now.first - old.first).toNat + k) := by
        rw [wrap_id (by omega) (by omega), show now.first + (k : Int) - old.first = (((now.first - old.first).toNat + k : Nat) : Int) by omega]; rfl
      have i2 : idx (IntKind.i64.wrap (now.first + (k : Int) - now.first)) = some k := by
        rw [wrap_id (by omega) (by omega), show now.first + (k : Int) - now.first = ((k : Nat) : Int) by omega]; rfl
      have w1 : IntKind.i64.wrap (now.first + (k : Int) + 1) = now.first + ((k + 1 : Nat) : Int) := by rw [wrap_id (by omega) (by omega)]; omega
      rw [evFolL]
      simp only [unLsL, unBns, unLsE, unLsLw, unBnsw, unLsEw, preLsL1, preBns1, preLsE1, unstFol, prlFol, outFol, etaEnt, etaLst, Option.bind_some, List.length_map, unStrs, unInts, unBools, unEnts, unItms, unTrns, cond_true, cond_false, Bool.and_true, Bool.true_and, hyes, i1, i2, w1, decide_eq_true (lt_at a1), decide_eq_true (lt_at a2), decide_eq_true (lt_at a3), decide_eq_true (lt_at a4), getD_at a1, getD_at a2, getD_at a3, getD_at a4, stFol]
      rcases Bool.eq_false_or_eq_true (F.sameE y.1.1 y.1.2) with hs | hs
      · by_cases hab : y.2.1 = y.2.2
        · have hg : F.folG y = 0 := by simp [F.folG, hs, hab]
          simp only [hg, hs, hab, bne_self_eq_false, Bool.not_true, cond_false, if_true]
          rfl
        · have hb : (y.2.1 != y.2.2) = true := by simp [hab]
          have hg : F.folG y = 3 := by simp [F.folG, hs, hab]
          simp only [hg, hs, hb, Bool.not_true, cond_false, cond_true]
          rfl
      · have hg : F.folG y = 12 := by simp [F.folG, hs]
        simp only [hg, hs, Bool.not_false, cond_true]
        rfl
  have e : n = now.first + ((n - now.first).toNat : Int) := by omega
  rw [e]
  exact key _ (by rw [hX]; omega)

theorem evFol (old : Lst) (now : Lst) : (runF enFol false Tryz.f41 [.agg (eLst old), .agg (eLst now)]).val =
  (fun (q : Option (AV × Heap)) => (fun (q_1 : Int) => (fun (q_2 : List AV) => (fun (q_3 : List AV) => (fun (q_4 : AV) => (fun (q_5 : List AV) => (fun (q : Option (AV ×
  Heap)) => bif old.target != now.target then some ((vI (6 : Int)), []) else bif old.ended then Option.bind (unenc encLsL (q_4 :: q_5)) fun (z : Lst × Lst) => bif bif
  old.ended then !F.sameL z.fst z.snd else false then some ((vI (11 : Int)), []) else q else bif old.ended then none else q) (bif bif decide (now.first < old.first) then
  true else decide (IntKind.wrap IntKind.i64 (now.first + (↑(List.length (List.map eEnt now.entries)) : Int)) < q_1) then q else Option.bind (unenc encBns [q_4]) fun (z :
  Lst) => bif decide (List.length z.entries ≤ (100000 : Nat)) then Option.bind (unenc encBns q_5) fun (z_1 : Lst) => bif decide (List.length z_1.entries ≤ (100000 : Nat))
  then Option.bind (unenc stFol1 (St.mk [(9, (vI now.first)), (8, AV.sl (List.map eI (F.bn z_1))), (7, AV.sl (List.map eI (F.bn z))), (5, (vI q_1)), (3, .ptr 3 0 0), (2,
  .ptr 2 0 0)] [(3, Blk.mk true 0 0 [q_3]), (2, Blk.mk true 0 0 [q_2])])) fun (z : Lst × Lst × Int) => bif F.folOK z.fst z.snd.fst && F.le z.snd.fst.first z.snd.snd && F.le
  z.snd.snd (max z.snd.fst.first (F.endN z.fst)) && true then bif decide (F.folL z.fst z.snd.fst z.snd.snd = (0 : Int)) then bif decide ((0 : Int) < (↑(List.length (List.map
  eI (F.bn z.fst))) : Int)) then Option.bind (idx (IntKind.wrap IntKind.i64 ((↑(List.length (List.map eI (F.bn z.fst))) : Int) - (1 : Int)))) fun (z_2 : Nat) => Option.bind
  (unenc (List.map eI) (List.map eI (F.bn z.fst))) fun (z_3 : List Int) => bif decide (z_2 < List.length z_3) then bif bif decide (F.endN z.fst ≤ z.snd.fst.first) then
  decide (z.snd.fst.breaks < List.getD z_3 z_2 (0 : Int)) else false then q else some ((vI (0 : Int)), []) else none else bif bif decide (F.endN z.fst ≤ z.snd.fst.first)
  then decide (z.snd.fst.breaks < z.fst.breaks) else false then q else some ((vI (0 : Int)), []) else some ((vI (F.folL z.fst z.snd.fst z.snd.snd)), []) else none else none
  else none)) [AV.agg q_3]) (AV.agg q_2)) [(vI now.target), (vI now.first), (vI now.breaks), AV.sl (List.map eEnt now.entries), (vB now.ended)]) [(vI old.target), (vI
  old.first), (vI old.breaks), AV.sl (List.map eEnt old.entries), (vB old.ended)]) (IntKind.wrap IntKind.i64 (old.first + (↑(List.length (List.map eEnt old.entries)) :
  Int)))) (some ((vI (8 : Int)), [])) := by kernel_rfl

def encFol1 (old : Lst) (now : Lst) : List AV := [.agg (eLst old), .agg (eLst now)]

def encFol (a : Lst × Lst) : List AV := encFol1 a.1 a.2

theorem encFol_inj (a a' : Lst × Lst) (h : encFol a = encFol a') : a = a' := by
  simp only [encFol, encFol1] at h
  try simp [strs_inj, ents_inj, eEnt_iff, eLst_iff, ints_inj, eTrn_iff] at h
  grind

theorem unFol (old : Lst) (now : Lst) : unenc encFol ([AV.agg [(vI old.target), (vI old.first), (vI old.breaks), AV.sl (List.map eEnt old.entries), (vB old.ended)], AV.agg [(vI now.target), (vI now.first), (vI now.breaks),
  AV.sl (List.map eEnt now.entries), (vB now.ended)]]) = some (old, now) := unenc_of encFol_inj (old, now) rfl

theorem unFolw (old_target : Int) (old_first : Int) (old_breaks : Int) (old_entries : List Ent) (old_ended : Bool) (now_target : Int) (now_first : Int) (now_breaks : Int) (now_entries : List Ent) (now_ended : Bool) : unenc encFol ([AV.agg [(vI old_target), (vI old_first), (vI old_breaks), AV.sl (List.map eEnt old_entries), (vB old_ended)], AV.agg [(vI now_target), (vI now_first), (vI now_breaks),
  AV.sl (List.map eEnt now_entries), (vB now_ended)]]) = some ((Lst.mk old_target old_first old_breaks old_entries old_ended), (Lst.mk now_target now_first now_breaks now_entries now_ended)) := unenc_of encFol_inj ((Lst.mk old_target old_first old_breaks old_entries old_ended), (Lst.mk now_target now_first now_breaks now_entries now_ended)) rfl

def resFol1 (old : Lst) (now : Lst) : AV × Heap := (vI (F.fol old now), [])

def preFol1 (old : Lst) (now : Lst) : Bool := decide (F.check old = 0) && decide (F.check now = 0)

noncomputable def oFol : Orc := orc 41 false encFol (fun a => preFol1 a.1 a.2) fun a => resFol1 a.1 a.2

theorem okFol : OrcOK Tryz.prog noG oFol := by
  refine mk_ok Tryz.f41 (keep := false) (by kernel_rfl) (by kernel_rfl) enFol_ok mixed (one_loop (x0 := loopN Tryz.f41 0) (by kernel_rfl) (lpo_ok ?_)) (by first | exact fun _ _ => ⟨rfl, rfl⟩ | (intro h; cases h)) ?_
  · rintro ⟨old, now, n⟩ hp
    exact lpFol_ok old now n hp
  rintro ⟨old, now⟩ hpre hok
  show (runF enFol false _ (encFol1 _ _)).val = some (resFol1 _ _)
  unfold encFol1 resFol1
  rw [evFol]
  simp only [preFol1, Bool.and_eq_true, decide_eq_true_eq] at hpre
  obtain ⟨c1, c2⟩ := hpre
  obtain ⟨o1, _, _, o2, o3⟩ := F.check_ok c1
  obtain ⟨n1, _, _, n2, n3⟩ := F.check_ok c2
  have l1 : decide (old.entries.length ≤ 100000) = true := decide_eq_true (by omega)
  have l2 : decide (now.entries.length ≤ 100000) = true := decide_eq_true (by omega)
  simp only [unLsL, unBns, unLsE, unLsLw, unBnsw, unLsEw, preLsL1, preBns1, preLsE1, unstFol, prlFol, outFol, etaEnt, etaLst, Option.bind_some, List.length_map, unStrs, unInts, unBools, unEnts, unItms, unTrns, cond_true, cond_false, Bool.and_true, Bool.true_and, l1, l2, F.fol, F.endN_def]
  have hle : F.le now.first now.first = true := decide_eq_true (Int.le_refl _)
  have hmx : F.le now.first (max now.first (F.endN old)) = true := decide_eq_true (by omega)
  have hend : (bif decide (F.folL old now now.first = 0) then
      bif decide (0 < ((F.bn old).length : Int)) then
        (idx (IntKind.i64.wrap (((F.bn old).length : Int) - 1))).bind fun z_2 =>
          bif decide (z_2 < (F.bn old).length) then
            bif bif decide (F.endN old ≤ now.first) then decide (now.breaks < (F.bn old).getD z_2 0) else false then some (vI 8, []) else some (vI 0, [])
          else none
      else bif bif decide (F.endN old ≤ now.first) then decide (now.breaks < old.breaks) else false then some (vI 8, []) else some (vI 0, [])
    else some (vI (F.folL old now now.first), [])) =
    (some (vI (bif F.folL old now now.first != 0 then F.folL old now now.first else bif F.le (F.endN old) now.first && F.lt now.breaks (F.last old) then 8 else 0), []) : Option (AV × Heap)) := by
    by_cases hz : F.folL old now now.first = 0
    · simp only [hz, decide_true, cond_true, bne_self_eq_false, cond_false]
      by_cases h0 : 0 < (F.bn old).length
      · have d0 : decide (0 < ((F.bn old).length : Int)) = true := decide_eq_true (by omega)
        have hb := F.bn_len old
        have hj : idx (IntKind.i64.wrap (((F.bn old).length : Int) - 1)) = some ((F.bn old).length - 1) := by
          rw [wrap_id (by omega) (by omega), show ((F.bn old).length : Int) - 1 = (((F.bn old).length - 1 : Nat) : Int) by omega]; rfl
        have d1 : decide ((F.bn old).length - 1 < (F.bn old).length) = true := decide_eq_true (by omega)
        have hl : F.last old = (F.bn old).getD ((F.bn old).length - 1) 0 := by simp only [F.last, F.lt, d0, cond_true]
        simp only [d0, hj, d1, hl, cond_true, Option.bind_some, F.le, F.lt]
        cases decide (F.endN old ≤ now.first)
        · rfl
        · cases decide (now.breaks < (F.bn old).getD ((F.bn old).length - 1) 0) <;> rfl
      · have d0 : decide (0 < ((F.bn old).length : Int)) = false := decide_eq_false (by omega)
        have hl : F.last old = old.breaks := by simp only [F.last, F.lt, d0, cond_false]
        simp only [d0, hl, cond_false, F.le, F.lt]
        cases decide (F.endN old ≤ now.first)
        · rfl
        · cases decide (now.breaks < old.breaks) <;> rfl
    · have hb : (F.folL old now now.first != 0) = true := by simp [hz]
      simp only [hz, hb, decide_false, cond_false, cond_true]
  cases (old.target != now.target)
  · have hfo : ¬ now.first < old.first → ¬ F.endN now < F.endN old → F.folOK old now = true := by
      intro a b
      simp only [F.folOK, c1, c2, F.le, decide_true, Bool.true_and, Bool.and_eq_true, decide_eq_true_eq]
      omega
    have tail : (bif bif decide (now.first < old.first) then true else decide (F.endN now < F.endN old) then some (vI 8, []) else
        bif F.folOK old now && F.le now.first now.first && F.le now.first (max now.first (F.endN old)) then
          (some (vI (bif F.folL old now now.first != 0 then F.folL old now now.first else bif F.le (F.endN old) now.first && F.lt now.breaks (F.last old) then 8 else 0), []) : Option (AV × Heap)) else none) =
        some (vI (bif F.lt now.first old.first || F.lt (F.endN now) (F.endN old) then 8 else bif F.folL old now now.first != 0 then F.folL old now now.first else bif F.le (F.endN old) now.first && F.lt now.breaks (F.last old) then 8 else 0), []) := by
      by_cases a : now.first < old.first
      · simp only [F.lt, a, decide_true, cond_true, Bool.true_or]
      · by_cases b : F.endN now < F.endN old
        · simp only [F.lt, a, b, decide_true, decide_false, cond_true, cond_false, Bool.or_true]
        · simp only [F.lt, a, b, decide_false, cond_false, Bool.or_false, hfo a b, hle, hmx, Bool.and_self, cond_true]
    rw [hend, tail]
    simp only [cond_false]
    cases old.ended
    · simp only [cond_false, Bool.false_and]
    · cases F.sameL old now <;> simp only [cond_false, cond_true, Bool.true_and, Bool.not_true, Bool.not_false]
  · rfl

end M

def F.cnt : List Ent → Nat
  | [] => 0
  | e :: l => (bif e.brk then 1 else 0) + F.cnt l

def F.bnZ (b : Int) : List Ent → List Int
  | [] => []
  | e :: l => (b + (bif e.brk then 1 else 0)) :: F.bnZ (b + (bif e.brk then 1 else 0)) l

theorem F.bnA_eq : ∀ (l : List Ent) (b : Int) (acc : List Int), 0 ≤ b → b + l.length ≤ 4611686018427387904 → F.bnA b acc l = acc ++ F.bnZ b l
  | [], b, acc, _, _ => by simp [F.bnA, F.bnZ]
  | e :: l, b, acc, h1, h2 => by
    simp only [List.length_cons] at h2
    have hw : IntKind.i64.wrap (b + 1) = b + 1 := M.wrap_id (by omega) (by omega)
    show F.bnA (F.bnS (b, acc) e).1 (F.bnS (b, acc) e).2 l = _
    have e1 : F.bnS (b, acc) e = (b + (bif e.brk then 1 else 0), acc ++ [b + (bif e.brk then 1 else 0)]) := by
      simp only [F.bnS, hw]
      cases e.brk <;> simp
    rw [e1]
    simp only [F.bnZ]
    rw [F.bnA_eq l _ _ (by cases e.brk <;> simp <;> omega) (by cases e.brk <;> simp <;> omega)]
    simp

theorem F.bnZ_at : ∀ {l : List Ent} {b : Int} {i : Nat} {v : Int}, (F.bnZ b l)[i]? = some v → v = b + F.cnt (l.take (i + 1))
  | [], b, i, v, h => by simp [F.bnZ] at h
  | e :: l, b, 0, v, h => by
    simp only [F.bnZ, List.getElem?_cons_zero, Option.some.injEq] at h
    subst h
    simp only [List.take_succ_cons, List.take_zero, F.cnt]
    cases e.brk <;> simp
  | e :: l, b, i + 1, v, h => by
    simp only [F.bnZ, List.getElem?_cons_succ] at h
    have := F.bnZ_at h
    rw [this, List.take_succ_cons]
    simp only [F.cnt]
    cases e.brk <;> simp <;> omega

theorem F.bn_at {l : Lst} (hc : F.check l = 0) {i : Nat} {v : Int} (h : (F.bn l)[i]? = some v) : v = l.breaks + F.cnt (l.entries.take (i + 1)) := by
  obtain ⟨h1, _, _, h2, h3⟩ := F.check_ok hc
  unfold F.bn at h
  rw [F.bnA_eq _ _ _ (by omega) (by omega), List.nil_append] at h
  exact F.bnZ_at h

def F.Rel (l now : Lst) : Prop :=
  F.check l = 0 ∧ F.check now = 0 ∧ now.target = l.target ∧ (l.ended = true → now = l) ∧
  ∃ (added : List Ent) (d : Nat), now.entries = (l.entries ++ added).drop d ∧ d ≤ (l.entries ++ added).length ∧ now.first = l.first + d ∧ now.breaks = l.breaks + F.cnt ((l.entries ++ added).take d)

theorem F.ffI_zr {α : Type} {g : α → Int} : ∀ {l : List α}, (∀ y ∈ l, g y = 0) → M.ffI g l = 0
  | [], _ => rfl
  | y :: l, h => by
    simp only [M.ffI]
    rw [if_pos (h y (by simp))]
    exact F.ffI_zr fun z hz => h z (by simp [hz])

namespace M

end M

namespace M

end M

end Go.Proofs.YtajmdlpanlbnjaaGreatDoor
