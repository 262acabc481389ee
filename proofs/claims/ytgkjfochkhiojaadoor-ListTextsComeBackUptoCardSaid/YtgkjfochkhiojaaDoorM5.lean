/- What is proved here: The machine is sound: whole functions (no statement of the seat). -/
import Derived.Test.YtgkjfochkhiojaaDoorM4
namespace Go.Proofs.YtgkjfochkhiojaaDoor.M
open Go Go.RowKit
set_option linter.unusedVariables false
set_option linter.unusedSimpArgs false

section

variable {P : Program} {E : Env}
def exOf : Ex → Exit
  | .normal => .normal
  | .exit i => .exit i
  | .ret => .ret
def lessR (kt kh : List Nat) (p : Ex × St) : T (Ex × St) := .ret (p.1, less kt kh p.2)
/-- A field that holds an empty slice, taken as a slice of the call's own. -/
def ownP (kb j k : Nat) (p : Nat × Blk) : Nat × Blk := match Nat.beq p.1 kb with
  | true => (p.1, { p.2 with rows := p.2.rows.map (fun r => r.set j (.own k)) })
  | false => p
def ownH (kb j k t n : Nat) (h : Heap) : Heap := mset (h.map (ownP kb j k)) k ⟨false, t, n, []⟩
def ownB (kb j k : Nat) (h : Heap) : Bool := (match mget h k with | none => true | some _ => false) && Nat.blt k 900 && (match mget h kb with
  | some b => b.box && b.rows.all fun r => match r[j]? with | some .e0 => true | _ => false
  | none => false)
/-- What a loop comes to. -/
inductive LoopOK (E : Env) (x : Code) : St → Ex → St → Prop where
  | stop {s s1 : St} {e : Ex} (kt kh : List Nat) (h : ((exec E x s).bind (lessR kt kh)).val = some (e, s1)) (hn : e ≠ .normal) (hc : closedB s1 = true) : LoopOK E x s e s1
  | next {s s1 s2 : St} {e : Ex} (kt kh : List Nat) (h : ((exec E x s).bind (lessR kt kh)).val = some (.normal, s1)) (hc : closedB s1 = true) (hl : LoopOK E x s1 e s2) : LoopOK E x s e s2
  | weak {s s2 : St} {e : Ex} (kt kh : List Nat) (hc : closedB (less kt kh s) = true) (hl : LoopOK E x (less kt kh s) e s2) : LoopOK E x s e s2
  | own {s s2 : St} {e : Ex} (kb j k t n : Nat) (hb : ownB kb j k s.h = true) (hl : LoopOK E x ⟨s.t, ownH kb j k t n s.h⟩ e s2) : LoopOK E x s e s2
section
variable {B : Nat → Prop} {N : Nat} {β0 : Nat → Option BI} {o : Oper} {a : Act} {w w' w0 : World} {S S' S0 : Nat → Prop} {β β' : Nat → Option BI} {h : Heap} {av : AV} {v : Value} {t : Tmps} {s s' s2 : St}
theorem hasAll_spec {ks : List Nat} (hh : hasAll h ks = true) : ∀ k ∈ ks, ∃ b, mget h k = some b := fun k hk => by
  have := List.all_eq_true.1 hh k hk
  cases hm : mget h k with
  | none => rw [hm] at this; cases this
  | some b => exact ⟨b, rfl⟩
theorem getT_filter (f : Nat → Bool) (t : Tmps) (n : Nat) : getT (t.filter fun p => f p.1) n = if f n = true then getT t n else .unk := by
  unfold getT
  rw [mget_filter f]
  cases f n <;> simp
theorem less_rel (rel : Rel E B N w0 S0 β0 s a w S β) (kt kh : List Nat) (hc : closedB (less kt kh s) = true) : ∃ β', Rel E B N w0 S0 β0 (less kt kh s) a w S β' := by
  have inv := rel.inv
  unfold closedB at hc
  simp only [Bool.and_eq_true] at hc
  obtain ⟨hc1, hc2⟩ := hc
  have mh : ∀ k, mget (less kt kh s).h k = if kh.elem k = true then mget s.h k else none := fun k => by
    show mget (s.h.filter fun p => kh.elem p.1) k = _
    exact mget_filter (fun q => kh.elem q) s.h k
  let β' : Nat → Option BI := fun k => if kh.elem k = true then β k else none
  have hb : ∀ k x, β' k = some x → kh.elem k = true ∧ β k = some x := by
    intro k x hx
    simp only [β'] at hx
    split at hx
    · exact ⟨‹_›, hx⟩
    · cases hx
  have keep : ∀ ks, hasAll (less kt kh s).h ks = true → ∀ k ∈ ks, ∀ x, β k = some x → β' k = some x := by
    intro ks hks k hk x hx
    obtain ⟨b, hm⟩ := hasAll_spec hks k hk
    rw [mh] at hm
    split at hm
    · simp only [β']; rw [if_pos ‹_›]; exact hx
    · cases hm
  refine ⟨β', ⟨inv.base, inv.lt, fun k k' x x' h1 h2 => inv.inj k k' x x' (hb k x h1).2 (hb k' x' h2).2, fun k x h1 => inv.new k x (hb k x h1).2, fun k x h1 => ?_, fun k bl h1 => ?_, inv.glob⟩, fun n => ?_, fun n j b want x hn => ?_, rel.below, rel.sub, rel.news, fun k x hi hm hx => rel.fix k x hi hm (hb k x hx).2, rel.size, rel.defers⟩
  · obtain ⟨k1, k2⟩ := hb k x h1
    obtain ⟨bl, a1, a2, a3⟩ := inv.dom k x k2
    have hm : mget (less kt kh s).h k = some bl := by rw [mh, if_pos k1]; exact a1
    refine ⟨bl, hm, fun hr => ?_, a3⟩
    obtain ⟨cs, ty, c1, c2, c3, c4, c5, c6, c7, c8⟩ := a2 hr
    refine ⟨cs, ty, c1, c2, c3, c4, c5, c6, c7, fun i row hi => ⟨(c8 i row hi).1, fun j y hy => ?_⟩⟩
    obtain ⟨u, hu, hru⟩ := (c8 i row hi).2 j y hy
    refine ⟨u, hu, ?_⟩
    cases hbx : bl.box
    · rw [hbx] at hru; simpa using hru
    · rw [hbx] at hru
      simp only [if_true] at hru ⊢
      have h2 := List.all_eq_true.1 hc2 (k, bl) (mget_mem hm)
      simp only [hbx] at h2
      have h3 := List.all_eq_true.1 (List.all_eq_true.1 h2 row (List.mem_of_getElem? hi)) y (List.mem_of_getElem? hy)
      refine hru.mono (fun _ _ => rfl) (fun _ h => h) fun q hq x hx => keep _ h3 q ?_ x hx
      -- the cell's blocks are among the value's
      cases y <;> first | exact hq | (simp [refsC, refs0] at hq)
  · rw [mh] at h1
    split at h1
    · obtain ⟨x, hx⟩ := inv.cov k bl h1
      exact ⟨x, by simp only [β']; rw [if_pos ‹_›]; exact hx⟩
    · cases h1
  · have hg : getT (less kt kh s).t n = noGd (if kt.elem n = true then getT s.t n else .unk) := by
      show getT ((s.t.filter fun p => kt.elem p.1).map fun p => (p.1, noGd p.2)) n = _
      rw [getT_map _ noGd rfl, getT_filter (fun q => kt.elem q)]
    have hk : hasAll (less kt kh s).h (refs2 (getT (less kt kh s).t n)) = true := by
      unfold getT
      cases hm : mget (less kt kh s).t n with
      | none => rfl
      | some y => exact List.all_eq_true.1 hc1 (n, y) (mget_mem hm)
    rw [hg] at hk ⊢
    split
    · rename_i hn
      rw [if_pos hn] at hk
      exact (noGd_rv (rel.tok n)).mono (fun _ _ => rfl) (fun _ h => h) (keep _ hk)
    · trivial
  · have hg : getT (less kt kh s).t n = noGd (if kt.elem n = true then getT s.t n else .unk) := by
      show getT ((s.t.filter fun p => kt.elem p.1).map fun p => (p.1, noGd p.2)) n = _
      rw [getT_map _ noGd rfl, getT_filter (fun q => kt.elem q)]
    rw [hg] at hn
    exact absurd hn noGd_ne
theorem less_relE (rel : RelE E B N w0 S0 β0 s a w) (kt kh : List Nat) (hc : closedB (less kt kh s) = true) : RelE E B N w0 S0 β0 (less kt kh s) a w := by
  obtain ⟨S, β, r⟩ := rel
  obtain ⟨β', r'⟩ := less_rel r kt kh hc
  exact ⟨S, β', r'⟩
theorem ownNe {i k : Nat} (h : ¬ i = k) : Nat.beq i k = false := by
  cases hb : Nat.beq i k
  · rfl
  · exact absurd (Nat.eq_of_beq_eq_true hb) h
theorem mget_ownH (kb j k t n : Nat) (h : Heap) (q : Nat) : mget (ownH kb j k t n h) q = if k = q then some ⟨false, t, n, []⟩ else (mget h q).map fun b => if q = kb then { b with rows := b.rows.map (fun r => r.set j (.own k)) } else b := by
  have hmap : ∀ h : Heap, mget (h.map (ownP kb j k)) q = (mget h q).map fun b => if q = kb then { b with rows := b.rows.map (fun r => r.set j (.own k)) } else b := by
    intro h
    induction h with
    | nil => rfl
    | cons p r ih =>
      obtain ⟨i, b⟩ := p
      rw [List.map_cons]
      have hp : ownP kb j k (i, b) = (i, if i = kb then { b with rows := b.rows.map (fun r => r.set j (.own k)) } else b) := by
        unfold ownP
        by_cases hi : i = kb
        · have : Nat.beq i kb = true := by simpa using hi
          simp only [this, if_pos hi]
        · have : Nat.beq i kb = false := ownNe hi
          simp only [this, if_neg hi]
      rw [hp, mget, mget]
      by_cases hqi : q = i
      · subst hqi
        have : Nat.beq q q = true := by simp
        simp only [this, Option.map_some]
      · have : Nat.beq q i = false := ownNe hqi
        simp only [this]
        exact ih
  unfold ownH
  rw [mget_mset]
  by_cases hkq : k = q
  · subst hkq; simp
  · have hqk : ¬ q = k := fun e => hkq e.symm
    first | (rw [if_neg hkq, if_neg hkq]; exact hmap h) | (rw [if_neg hqk, if_neg hkq]; exact hmap h)
theorem own_rel (rel : Rel E B N w0 S0 β0 s a w S β) {kb j k t n : Nat} (hc : ownB kb j k s.h = true) : ∃ β', Rel E B N w0 S0 β0 ⟨s.t, ownH kb j k t n s.h⟩ a w S β' := by
  have inv := rel.inv
  unfold ownB at hc
  simp only [Bool.and_eq_true] at hc
  obtain ⟨⟨hc1, hc2⟩, hc3⟩ := hc
  have hk9 : k < 900 := by simpa using hc2
  have hkn : mget s.h k = none := by
    cases hm : mget s.h k with
    | none => rfl
    | some b => rw [hm] at hc1; cases hc1
  have hβk : β k = none := by
    cases hb : β k with
    | none => rfl
    | some x =>
      obtain ⟨bl, h1, _⟩ := inv.dom k x hb
      rw [hkn] at h1; cases h1
  let β' : Nat → Option BI := fun q => if q = k then some ⟨false, 0, 0, 0, 0⟩ else β q
  have hb : ∀ q x, β' q = some x → x.real = true → β q = some x := by
    intro q x hx hr
    simp only [β'] at hx
    split at hx
    · cases hx; cases hr
    · exact hx
  have keep : ∀ q x, β q = some x → β' q = some x := by
    intro q x hx
    simp only [β']
    rw [if_neg (by rintro rfl; rw [hβk] at hx; cases hx)]
    exact hx
  refine ⟨β', ⟨inv.base, inv.lt, fun k1 k2 x x' h1 h2 r1 r2 => inv.inj k1 k2 x x' (hb k1 x h1 r1) (hb k2 x' h2 r2) r1 r2, fun q x h1 r1 => inv.new q x (hb q x h1 r1) r1, fun q x h1 => ?_, fun q bl h1 => ?_, inv.glob⟩, fun m => (rel.tok m).mono (fun _ _ => rfl) (fun _ h => h) (fun q _ x hx => keep q x hx), rel.gd, rel.below, rel.sub, rel.news, fun q x hi hm hx => ?_, rel.size, rel.defers⟩
  · by_cases hq : q = k
    · subst hq
      refine ⟨⟨false, t, n, []⟩, by rw [mget_ownH, if_pos rfl], fun hr => ?_, fun _ => ⟨rfl, rfl⟩⟩
      simp only [β', if_true] at h1
      cases h1; cases hr
    · have h2 : β q = some x := by simp only [β', if_neg hq] at h1; exact h1
      obtain ⟨bl, a1, a2, a3⟩ := inv.dom q x h2
      have hm : mget (ownH kb j k t n s.h) q = some (if q = kb then { bl with rows := bl.rows.map (fun r => r.set j (.own k)) } else bl) := by
        rw [mget_ownH, if_neg (fun e => hq e.symm), a1]; rfl
      by_cases hkb : q = kb
      · rw [if_pos hkb] at hm
        subst hkb
        rw [a1] at hc3
        simp only [Bool.and_eq_true] at hc3
        obtain ⟨hbx, hrows⟩ := hc3
        refine ⟨_, hm, fun hr => ?_, fun hr => ?_⟩
        · obtain ⟨cs, ty, c1, c2, c3, c4, c5, c6, c7, c8⟩ := a2 hr
          refine ⟨cs, ty, c1, c2, by simpa using c3, c4, c5, c6, c7, fun i row hi => ?_⟩
          simp only [List.getElem?_map, Option.map_eq_some_iff] at hi
          obtain ⟨row0, hi0, rfl⟩ := hi
          obtain ⟨d1, d2⟩ := c8 i row0 hi0
          refine ⟨by simpa using d1, fun l y hy => ?_⟩
          simp only [hbx, if_true] at d2 ⊢
          rw [List.getElem?_set] at hy
          split at hy
          · rename_i hjl
            subst hjl
            split at hy
            · rename_i hlt
              cases hy
              have he := List.all_eq_true.1 hrows row0 (List.mem_of_getElem? hi0)
              have hg : row0[j]? = some row0[j] := List.getElem?_eq_getElem hlt
              have h0 : row0[j]? = some .e0 := by
                rw [hg] at he ⊢
                cases hh : row0[j] <;> rw [hh] at he <;> first | rfl | cases he
              obtain ⟨v, e1, e2⟩ := d2 j _ h0
              exact ⟨v, e1, ⟨⟨false, 0, 0, 0, 0⟩, by simp only [β', if_true], (fun hr => (nomatch hr)), (fun _ => e2)⟩⟩
            · cases hy
          · obtain ⟨v, e1, e2⟩ := d2 l y hy
            exact ⟨v, e1, e2.mono (fun _ _ => rfl) (fun _ h => h) fun q _ x hx => keep q x hx⟩
        · have := a3 hr
          rw [hbx] at this
          exact absurd this.2 (by simp)
      · rw [if_neg hkb] at hm
        refine ⟨bl, hm, fun hr => ?_, a3⟩
        obtain ⟨cs, ty, c1, c2, c3, c4, c5, c6, c7, c8⟩ := a2 hr
        refine ⟨cs, ty, c1, c2, c3, c4, c5, c6, c7, fun i row hi => ⟨(c8 i row hi).1, fun l y hy => ?_⟩⟩
        obtain ⟨u, hu, hru⟩ := (c8 i row hi).2 l y hy
        refine ⟨u, hu, ?_⟩
        cases hbx : bl.box
        · rw [hbx] at hru; simpa using hru
        · rw [hbx] at hru
          simp only [if_true] at hru ⊢
          exact hru.mono (fun _ _ => rfl) (fun _ h => h) fun q _ x hx => keep q x hx
  · rw [mget_ownH] at h1
    split at h1
    · rename_i e
      subst e
      exact ⟨⟨false, 0, 0, 0, 0⟩, by simp only [β', if_true]⟩
    · cases hm : mget s.h q with
      | none => rw [hm] at h1; cases h1
      | some b =>
        obtain ⟨x, hx⟩ := inv.cov q b hm
        exact ⟨x, keep q x hx⟩
  · have hq : q ≠ k := by rintro rfl; exact absurd hi.1 (by omega)
    simp only [β', if_neg hq] at hx
    exact rel.fix q x hi hm hx
theorem own_relE (rel : RelE E B N w0 S0 β0 s a w) {kb j k t n : Nat} (hc : ownB kb j k s.h = true) : RelE E B N w0 S0 β0 ⟨s.t, ownH kb j k t n s.h⟩ a w := by
  obtain ⟨S, β, r⟩ := rel
  obtain ⟨β', r'⟩ := own_rel r hc
  exact ⟨S, β', r'⟩
theorem ung_none (x : AV) : ung none x = x := by unfold ung; split <;> rfl
theorem eval_bool (rel : RelE E B N w0 S0 β0 s a w) {c : Operand} {b : Bool} (hb : boolOf (ev E s.t c) = some b) : a.eval c = .bool b := by
  obtain ⟨S, β, r⟩ := rel
  have := r.args (g := none) (fun _ _ e => by cases e) c
  unfold ρOf at this
  rw [ung_none, boolOf_some hb] at this
  exact (rv_v this).1
/-- What a piece of code has to do. -/
def CodeOK (P : Program) (E : Env) (B : Nat → Prop) (N : Nat) (w0 : World) (S0 : Nat → Prop) (β0 : Nat → Option BI) (c : Code) : Prop :=
  ∀ (s : St) (e : Ex) (s' : St) (a : Act) (w : World) (Q : Exit → Act → World → Prop), RelE E B N w0 S0 β0 s a w → (exec E c s).val = some (e, s') → (∀ a' w', RelE E B N w0 S0 β0 s' a' w' → Q (exOf e) a' w') → c.wp P Q a w
theorem loop_key {x : Code} (hx : CodeOK P E B N w0 S0 β0 x) {Q : Exit → Act → World → Prop} {s2 : St} {e : Ex} (hQ : ∀ a' w', RelE E B N w0 S0 β0 s2 a' w' → Q (exOf e) a' w') {s : St} (hl : LoopOK E x s e s2) :
    ∀ (a : Act) (w : World), RelE E B N w0 S0 β0 s a w → ∀ (b : Frame) (k : List Item) (cs : List Frame), ∃ e' a' w', Q e' a' w' ∧ Arrives P (lone (b.at a (.code x :: .inLoop x :: k)) cs w) b k cs e' a' w' := by
  induction hl with
  | @stop s s1 e kt kh h hn hc =>
    intro a w rel b k cs
    rw [T.bind_some] at h
    obtain ⟨⟨e1, s3⟩, h1, h2⟩ := h
    rw [show lessR kt kh (e1, s3) = .ret (e1, less kt kh s3) from rfl, T.ret_some] at h2
    cases h2
    obtain ⟨e', a', w', hq, harr⟩ := hx s e s3 a w (fun e' a' w' => e' = exOf e ∧ RelE E B N w0 S0 β0 s3 a' w') rel h1 (fun a' w' r => ⟨rfl, r⟩) b (.inLoop x :: k) cs
    obtain ⟨rfl, hr⟩ := hq
    refine ⟨exOf e, a', w', hQ a' w' (less_relE hr kt kh hc), .pass (x := .inLoop x) rfl (fun _ _ => .inl ?_) harr⟩
    cases e <;> first | exact absurd rfl hn | simp [exOf]
  | @next s s1 s2 e kt kh h hc hl ih =>
    intro a w rel b k cs
    rw [T.bind_some] at h
    obtain ⟨⟨e1, s3⟩, h1, h2⟩ := h
    rw [show lessR kt kh (e1, s3) = .ret (e1, less kt kh s3) from rfl, T.ret_some] at h2
    cases h2
    obtain ⟨e', a', w', hq, harr⟩ := hx s .normal s3 a w (fun e' a' w' => e' = .normal ∧ RelE E B N w0 S0 β0 s3 a' w') rel h1 (fun a' w' r => ⟨rfl, r⟩) b (.inLoop x :: k) cs
    obtain ⟨rfl, hr⟩ := hq
    obtain ⟨e2, a2, w2, q2, r2⟩ := ih hQ a' w' (less_relE hr kt kh hc) b k cs
    exact ⟨e2, a2, w2, q2, .of_steps (Steps.trans harr (.one step_inLoop)) r2⟩
  | @weak s s2 e kt kh hc hl ih =>
    intro a w rel b k cs
    exact ih hQ a w (less_relE rel kt kh hc) b k cs
  | @own s s2 e kb j ky t n hb hl ih =>
    intro a w rel b k cs
    exact ih hQ a w (own_relE rel hb) b k cs
theorem exec_sound (ok : EnvOK P E) (hm : P.follows .mixedOrders = true) {L : List Code} (hlp : ∀ x ∈ L, ∀ s e s', (E.lp (lid x) s).val = some (e, s') → LoopOK E x s e s') : ∀ c : Code, (∀ x ∈ loopsOf c, x ∈ L) → dstsOK N c = true → CodeOK P E B N w0 S0 β0 c := by
  intro c
  induction c with
  | skip =>
    intro _ _ s e s' a w Q rel hs hQ
    rw [exec, done, T.ret_some] at hs
    cases hs
    exact wp_skip (hQ a w rel)
  | region id ops dr =>
    intro _ hd s e s' a w Q rel hs hQ
    have hd' : DstOK N ops := fun o ho d hdd => by
      have := List.all_eq_true.1 hd o ho
      rw [hdd] at this
      simpa using this
    cases dr with
    | false =>
      simp only [exec, T.bind_some] at hs
      obtain ⟨s1, h1, h2⟩ := hs
      rw [done, T.ret_some] at h2
      cases h2
      exact region_sound ok hd' rel h1 hQ
    | true =>
      simp only [exec, T.bind_some] at hs
      obtain ⟨s1, h1, h2⟩ := hs
      rw [done, T.ret_some] at h2
      cases h2
      exact draw_sound ok hd' hm rel h1 hQ
  | seq x y ihx ihy =>
    intro hL hd s e s' a w Q rel hs hQ
    simp only [dstsOK, Bool.and_eq_true] at hd
    rw [exec, T.bind_some] at hs
    obtain ⟨⟨e1, s1⟩, h1, h2⟩ := hs
    refine wp_seq (ihx (fun z hz => hL z (by simp [loopsOf, hz])) hd.1 s e1 s1 a w _ rel h1 fun a' w' r => ?_)
    cases e1 with
    | normal => exact ihy (fun z hz => hL z (by simp [loopsOf, hz])) hd.2 s1 e s' a' w' Q r h2 hQ
    | exit i => rw [T.ret_some] at h2; cases h2; exact hQ a' w' r
    | ret => rw [T.ret_some] at h2; cases h2; exact hQ a' w' r
  | cond c x y ihx ihy =>
    intro hL hd s e s' a w Q rel hs hQ
    simp only [dstsOK, Bool.and_eq_true] at hd
    rw [exec] at hs
    split at hs
    · rename_i b hb
      refine wp_cond (eval_bool rel hb) ?_
      rw [T.ifB_some] at hs
      rcases hs with ⟨rfl, hs⟩ | ⟨rfl, hs⟩
      · exact ihx (fun z hz => hL z (by simp [loopsOf, hz])) hd.1 s e s' a w Q rel hs hQ
      · exact ihy (fun z hz => hL z (by simp [loopsOf, hz])) hd.2 s e s' a w Q rel hs hQ
    · rw [T.fail_some] at hs; exact hs.elim
  | block id x ihx =>
    intro hL hd s e s' a w Q rel hs hQ
    rw [exec, T.bind_some] at hs
    obtain ⟨⟨e1, s1⟩, h1, h2⟩ := hs
    refine wp_block (ihx (fun z hz => hL z (by simpa [loopsOf] using hz)) hd s e1 s1 a w _ rel h1 fun a' w' r => ?_)
    cases e1 with
    | normal => rw [T.ret_some] at h2; cases h2; exact hQ a' w' r
    | ret => rw [T.ret_some] at h2; cases h2; exact hQ a' w' r
    | exit i =>
      simp only [exOf, Exit.inBlock]
      simp only [] at h2
      cases hi : Nat.beq i id with
      | true =>
        rw [if_pos (beq_true.1 hi)]
        simp only [hi] at h2
        rw [T.ret_some] at h2; cases h2; exact hQ a' w' r
      | false =>
        rw [if_neg (beq_false.1 hi)]
        simp only [hi] at h2
        rw [T.ret_some] at h2; cases h2; exact hQ a' w' r
  | loop x ihx =>
    intro hL hd s e s' a w Q rel hs hQ
    rw [exec] at hs
    have hl := hlp x (hL x (by simp [loopsOf])) s e s' hs
    have hx := ihx (fun z hz => hL z (by simp [loopsOf, hz])) hd
    intro b k cs
    obtain ⟨e', a', w', hq, harr⟩ := loop_key hx hQ hl a w rel b k cs
    exact ⟨e', a', w', hq, .of_steps (.one step_loop) harr⟩
  | exit id =>
    intro _ _ s e s' a w Q rel hs hQ
    rw [exec, T.ret_some] at hs
    cases hs
    exact wp_exit (hQ a w rel)
  | ret =>
    intro _ _ s e s' a w Q rel hs hQ
    rw [exec, T.ret_some] at hs
    cases hs
    exact wp_ret (hQ a w rel)
  | _ =>
    intro _ _ s e s' a w Q rel hs hQ
    simp [exec, T.val] at hs

/-- Results. -/
def resSem (a : Act) : ResultVar → Sem Value
  | .tmp t => Pure.pure (a.tmps.getD t undef)
  | .cell q t => do loadVar t (← asAddr (a.tmps.getD q undef))
theorem run_res (ok : EnvOK P E) (rel : Rel E B N w0 S0 β0 s a w S β) (r : ResultVar) {x : AV} (hx : (resOf E s r).val = some x) : ∃ u, (resSem a r).run P w = .ok u w ∧ RV w S β x u := by
  cases r with
  | tmp t =>
    simp only [resOf, T.ret_some] at hx
    subst hx
    exact ⟨_, rfl, rel.tok t⟩
  | cell q t =>
    simp only [resOf] at hx
    split at hx
    · rename_i ti hti
      obtain ⟨u, h1, h2⟩ := run_loadK (P := P) ok.ty rel.inv hti (rel.tok q) hx
      refine ⟨u, ?_, h2⟩
      -- the address
      have : ∃ ad, a.tmps.getD q undef = .pointer (some ad) := by
        have hq := rel.tok q
        unfold loadK at hx
        split at hx
        · rename_i row off hr; rw [hr] at hq; obtain ⟨b, o, h, _⟩ := rv_pel hq; exact ⟨_, h⟩
        · rename_i k i off hr; rw [hr] at hq; obtain ⟨X, _, _, h⟩ := rv_ptr hq; exact ⟨_, h⟩
        · rw [T.fail_some] at hx; exact hx.elim
      obtain ⟨ad, had⟩ := this
      show (do loadVar t (← asAddr (a.tmps.getD q undef)) : Sem Value).run P w = _
      rw [had] at h1 ⊢
      simpa [Instr.loadAt, Instr.sureAddr, asAddr] using h1
    · rw [T.fail_some] at hx; exact hx.elim
theorem run_ress (ok : EnvOK P E) (rel : Rel E B N w0 S0 β0 s a w S β) : ∀ (rs : List ResultVar) {xs : List AV}, (ress E s rs).val = some xs →
    ∃ us : List Value, (rs.mapM (resSem a)).run P w = .ok us w ∧ RL (RV w S β) xs us
  | [], xs, hx => by
    simp only [ress, T.ret_some] at hx
    subst hx
    exact ⟨[], by simp, trivial⟩
  | r :: rs, xs, hx => by
    simp only [ress, T.bind_some, T.ret_some] at hx
    obtain ⟨x, h1, xs', h2, rfl⟩ := hx
    obtain ⟨u, h3, h4⟩ := run_res ok rel r h1
    obtain ⟨us, h5, h6⟩ := run_ress ok rel rs h2
    exact ⟨u :: us, by rw [List.mapM_cons]; simp only [Sem.run_bind, h3, Result.andThen_ok, h5, Sem.run_pure], h4, h6⟩
theorem run_results (ok : EnvOK P E) (rel : Rel E B N w0 S0 β0 s a w S β) (fn : Func) {xs : List AV} (hx : (ress E s fn.results.toList).val = some xs) :
    ∃ u, (results fn a.tmps).run P w = .ok u w ∧ RV w S β (resAV xs) u := by
  obtain ⟨us, h1, h2⟩ := run_ress ok rel _ hx
  have hr : (results fn a.tmps).run P w = .ok (if h : us.toArray.size = 1 then us.toArray[0] else .tuple us.toArray) w := by
    have e : results fn a.tmps = (do let vs ← fn.results.mapM (resSem a); Pure.pure (if h : vs.size = 1 then vs[0] else .tuple vs)) := rfl
    rw [e, Array.mapM_eq_mapM_toList]
    simp [h1]
  refine ⟨_, hr, ?_⟩
  have hlen := h2.length
  rcases xs with _ | ⟨x, _ | ⟨y, xs⟩⟩ <;> rcases us with _ | ⟨u, _ | ⟨u2, us⟩⟩ <;> first | (simp at hlen; done) | skip
  · simp
    exact ⟨[], rfl, trivial⟩
  · simp
    exact noGd_rv h2.1
  · simp only [List.size_toArray, List.length_cons]
    rw [dif_neg (by omega)]
    refine ⟨u :: u2 :: us, rfl, h2.map fun b hb u hu => ?_⟩
    unfold flatOnly
    split
    · trivial
    · trivial
    · rename_i n1 n2
      rw [RV_eq n2 n1] at hu
      exact hu
theorem mget_numbered : ∀ (l : List AV) (i : Nat) (acc : Tmps) (n : Nat), mget (numbered i l acc) n = if i ≤ n ∧ n < i + l.length then l[n - i]? else mget acc n
  | [], i, acc, n => by
    simp only [numbered, List.length_nil, Nat.add_zero]
    rw [if_neg (by omega)]
  | x :: l, i, acc, n => by
    rw [numbered, mget_numbered l (i + 1) _ n]
    simp only [List.length_cons, mget]
    by_cases h1 : n = i
    · subst h1
      rw [if_neg (by omega), if_pos (by omega), beq_true.2 rfl]
      simp
    · rw [beq_false.2 h1]
      by_cases h2 : i + 1 ≤ n ∧ n < i + 1 + l.length
      · rw [if_pos h2, if_pos (by omega)]
        obtain ⟨q, hq⟩ : ∃ q, n - i = q + 1 := ⟨n - i - 1, by omega⟩
        rw [hq, List.getElem?_cons_succ]
        congr 1; omega
      · rw [if_neg h2, if_neg (by omega)]
theorem view0_noown {hg : Nat → Option Blk} {x : AV} (hn : ∀ k, x ≠ .own k) (hw : ∀ k lo n, x ≠ .win k lo n) (hr : RC w S β x v) : R0 w S (view0 hg x) v := by
  have h1 := hr.one
  cases x
  case own k => exact absurd rfl (hn k)
  case win k lo n => exact absurd rfl (hw k lo n)
  case e0 =>
    obtain ⟨A, rfl⟩ := hr
    exact R0.sl (rows := []) (size := 0) (b := 0) (off := 0) (vals := fun _ _ => .nilFunc) (by simp) (by simp) (by simp) (by simp) (by simp) (by simp)
  case v y => exact hr
  case sl rows => exact hr
  case nz b rows => exact hr.1
  case fn f cs =>
    obtain ⟨vs, rfl, h2⟩ := hr
    cases cs
    · cases vs
      · exact .fn f
      · exact h2.elim
    · exact .unk rfl
  all_goals exact .unk h1
theorem keptB_spec {ks : List Nat} : ∀ {l : List Nat} {H : Heap}, keptB h ks l = some H → (∀ p bl, mget H p = some bl → ∃ j ∈ l, p = posIn ks j ∧ mget h j = some bl ∧ bl.box = false) ∧ (∀ j ∈ l, ∃ bl, mget h j = some bl ∧ bl.box = false ∧ ∃ b2, mget H (posIn ks j) = some b2)
  | [], H, hh => by
    simp only [keptB, Option.some.injEq] at hh
    subst hh
    exact ⟨fun p bl hp => by simp [mget] at hp, fun j hj => by simp at hj⟩
  | j :: r, H, hh => by
    simp only [keptB] at hh
    split at hh
    · rename_i bl hbl
      split at hh
      · cases hh
      · rename_i hbox
        split at hh
        · rename_i H' hH
          cases hh
          obtain ⟨i1, i2⟩ := keptB_spec hH
          refine ⟨fun p b hp => ?_, fun q hq => ?_⟩
          · simp only [mget] at hp
            split at hp
            · rename_i hb
              cases hp
              exact ⟨j, by simp, beq_true.1 hb, hbl, hbox⟩
            · obtain ⟨q, h1, h2⟩ := i1 p b hp
              exact ⟨q, by simp [h1], h2⟩
          · rcases List.mem_cons.1 hq with rfl | hq
            · exact ⟨bl, hbl, hbox, bl, by simp [mget]⟩
            · obtain ⟨b, h1, h2, b2, h3⟩ := i2 q hq
              refine ⟨b, h1, h2, ?_⟩
              simp only [mget]
              split
              · exact ⟨_, rfl⟩
              · exact ⟨b2, h3⟩
        · cases hh
    · cases hh
theorem run_startC (ok : EnvOK P E) {f : FuncId} {fn : Func} (hf : P.funcs[f]? = some fn)
    {c : Code} (hc : fn.body = some c) (hd : dstsOK fn.ntmps c = true) {hin : Heap} {args : List AV} {cargs : List Value} (inv : Inv E B w S β0 hin) (hargs : RL (RV w S β0) args cargs) {s2 : St} {ee : Ex} (he : ee = .normal ∨ ee = .ret)
    (h1 : ∀ N a w', dstsOK N c = true → RelE E B N w S β0 ⟨numbered 0 (args.map noGd) [], hin⟩ a w' → ∀ Q : Exit → Act → World → Prop, (∀ a1 w1, RelE E B N w S β0 s2 a1 w1 → Q (exOf ee) a1 w1) → c.wp P Q a w') {xs : List AV} (h3 : (ress E s2 fn.results.toList).val = some xs) {R : Ending → World → Prop}
    (hQ : ∀ w' S2 β2 a' u, Rel E B (cargs.length + (fn.ntmps - cargs.length)) w S β0 s2 a' w' S2 β2 → RV w' S2 β2 (resAV xs) u → R (.returned u) w') : Calls P f cargs.toArray w R := by
  have hlen := hargs.length
  -- the first state
  have hN : fn.ntmps ≤ cargs.length + (fn.ntmps - cargs.length) := by omega
  have rel0 : RelE E B (cargs.length + (fn.ntmps - cargs.length)) w S β0 ⟨numbered 0 (args.map noGd) [], hin⟩ { tmps := cargs.toArray ++ Array.replicate (fn.ntmps - cargs.toArray.size) undef, defers := [] } w := by
    refine ⟨S, β0, inv, fun n => ?_, fun n j b want x hn => ?_, Blw.refl _ _, fun _ h => h, fun _ h => .inl h, fun _ _ _ _ h => h, by simp, rfl⟩
    · unfold getT
      rw [mget_numbered _ 0 [] n]
      simp only [Nat.zero_add, List.length_map, Nat.sub_zero, List.getElem?_map, Nat.zero_le, true_and]
      by_cases hn : n < args.length
      · rw [if_pos hn, List.getElem?_eq_getElem hn]
        obtain ⟨u, hu, hru⟩ := hargs.get (List.getElem?_eq_getElem hn)
        have : (cargs.toArray ++ Array.replicate (fn.ntmps - cargs.toArray.size) undef).getD n undef = u := by
          rw [Array.getD_eq_getD_getElem?, Array.getElem?_append_left (by simp; omega)]
          simp [hu]
        rw [this]
        exact noGd_rv hru
      · rw [if_neg hn]; trivial
    · exfalso
      unfold getT at hn
      rw [mget_numbered _ 0 [] n] at hn
      simp only [Nat.zero_add, List.length_map, Nat.sub_zero, List.getElem?_map, Nat.zero_le, true_and] at hn
      by_cases hl : n < args.length
      · rw [if_pos hl, List.getElem?_eq_getElem hl] at hn
        exact noGd_ne hn
      · rw [if_neg hl] at hn
        cases hn
  have hd' : dstsOK (cargs.length + (fn.ntmps - cargs.length)) c = true := by
    have mono : ∀ c, dstsOK fn.ntmps c = true → dstsOK (cargs.length + (fn.ntmps - cargs.length)) c = true := by
      intro c
      induction c with
      | region id ops dr =>
        intro hh
        refine List.all_eq_true.2 fun o ho => ?_
        have := List.all_eq_true.1 hh o ho
        cases hod : o.dst with
        | none => rfl
        | some d => rw [hod] at this; simp at this ⊢; omega
      | seq x y ihx ihy => intro hh; simp only [dstsOK, Bool.and_eq_true] at hh ⊢; exact ⟨ihx hh.1, ihy hh.2⟩
      | cond q x y ihx ihy => intro hh; simp only [dstsOK, Bool.and_eq_true] at hh ⊢; exact ⟨ihx hh.1, ihy hh.2⟩
      | block id x ih => intro hh; exact ih hh
      | loop x ih => intro hh; exact ih hh
      | _ => intro _; rfl
    exact mono c hd
  refine calls_of_wp hf hc (h1 _ _ w hd' rel0 _ fun a' w' rel2 => ?_)
  obtain ⟨S2, β2, rel⟩ := rel2
  obtain ⟨u, hu1, hu2⟩ := run_results ok rel fn h3
  rcases he with rfl | rfl
  · exact ⟨rel.defers, u, hu1, hQ w' S2 β2 a' u rel hu2⟩
  · exact ⟨rel.defers, u, hu1, hQ w' S2 β2 a' u rel hu2⟩
theorem run_startE (ok : EnvOK P E) (hm : P.follows .mixedOrders = true) {f : FuncId} {fn : Func} (hf : P.funcs[f]? = some fn) (hlp : ∀ x ∈ Func.loops fn, ∀ s e s', (E.lp (lid x) s).val = some (e, s') → LoopOK E x s e s')
    {c : Code} (hc : fn.body = some c) (hd : dstsOK fn.ntmps c = true) {hin : Heap} {args : List AV} {cargs : List Value} (inv : Inv E B w S β0 hin) (hargs : RL (RV w S β0) args cargs) {s2 : St} {ee : Ex} (he : ee = .normal ∨ ee = .ret)
    (h1 : (exec E c ⟨numbered 0 (args.map noGd) [], hin⟩).val = some (ee, s2)) {xs : List AV} (h3 : (ress E s2 fn.results.toList).val = some xs) {R : Ending → World → Prop}
    (hQ : ∀ w' S2 β2 a' u, Rel E B (cargs.length + (fn.ntmps - cargs.length)) w S β0 s2 a' w' S2 β2 → RV w' S2 β2 (resAV xs) u → R (.returned u) w') : Calls P f cargs.toArray w R :=
  have hlp' : ∀ x ∈ loopsOf c, x ∈ Func.loops fn := fun x hx => by unfold Func.loops; rw [hc]; exact hx
  run_startC ok hf hc hd inv hargs he (fun N a w' hdN rel Q hQ' => exec_sound ok hm hlp c hlp' hdN _ ee s2 a w' Q rel h1 hQ') h3 hQ
theorem run_start (ok : EnvOK P E) (hm : P.follows .mixedOrders = true) {f : FuncId} {fn : Func} (hf : P.funcs[f]? = some fn) (hlp : ∀ x ∈ Func.loops fn, ∀ s e s', (E.lp (lid x) s).val = some (e, s') → LoopOK E x s e s')
    {c : Code} (hc : fn.body = some c) (hd : dstsOK fn.ntmps c = true) {hin : Heap} {args : List AV} {cargs : List Value} (inv : Inv E B w S β0 hin) (hargs : RL (RV w S β0) args cargs) {s2 : St}
    (h1 : (exec E c ⟨numbered 0 (args.map noGd) [], hin⟩).val = some (.ret, s2)) {xs : List AV} (h3 : (ress E s2 fn.results.toList).val = some xs) {R : Ending → World → Prop}
    (hQ : ∀ w' S2 β2 a' u, Rel E B (cargs.length + (fn.ntmps - cargs.length)) w S β0 s2 a' w' S2 β2 → RV w' S2 β2 (resAV xs) u → R (.returned u) w') : Calls P f cargs.toArray w R :=
  run_startE ok hm hf hlp hc hd inv hargs (.inr rfl) h1 h3 hQ
/-- A function whose code is shown to do what it does, piece by piece. -/
theorem runC_sound (ok : EnvOK P E) {f : FuncId} {fn : Func} (hf : P.funcs[f]? = some fn) {c : Code} (hc : fn.body = some c) (hd : dstsOK fn.ntmps c = true) {keep : Bool} {args : List AV} {r : AV} {H : Heap} {s2 : St}
    (h1 : ∀ (w : World) (S : Nat → Prop), (∀ b, S b → b < w.heap.size) → ∀ N a w', dstsOK N c = true → RelE E (fun b => b < w.heap.size) N w S noKeys ⟨numbered 0 (args.map noGd) [], []⟩ a w' → ∀ Q : Exit → Act → World → Prop, (∀ a1 w1, RelE E (fun b => b < w.heap.size) N w S noKeys s2 a1 w1 → Q (exOf .ret) a1 w1) → c.wp P Q a w')
    {xs : List AV} (h3 : (ress E s2 fn.results.toList).val = some xs) (h4 : (finish keep s2 (resAV xs)).val = some (r, H)) : SpecP P E.glob f args r H := by
  intro w S cargs hlt hglob hargs
  have inv0 : Inv E (fun b => b < w.heap.size) w S noKeys [] := ⟨fun _ h => h, hlt, (fun _ _ _ _ h => by cases h), (fun _ _ h => by cases h), (fun _ _ h => by cases h), (fun k bl hk => by simp [mget] at hk), hglob⟩
  refine run_startC ok hf hc hd inv0 hargs (.inr rfl) (h1 w S hlt) h3 fun w' S2 β2 a' u rel hu2 => ?_
  have inv := rel.inv
  refine ⟨u, ?_⟩
  have h4' : (finish keep s2 (resAV xs)).val = some (r, H) := h4
  generalize resAV xs = r0 at hu2 h4'
  unfold finish at h4'
  cases keep with
  | false =>
    simp only [T.ret_some] at h4'
    cases h4'
    refine ⟨plusOwn S2 β2, noKeys, rfl, rel.below.below, fun b hb => .inl (rel.sub b hb), ?_, ?_, (fun _ _ _ _ h => by cases h), (fun _ _ h => by cases h), (fun _ _ h => by cases h), (fun k bl hk => by simp [mget] at hk), view2_rep (fun b hb => .inl hb) (sees_own inv _) hu2⟩
    · rintro b (hb | ⟨k, x, k1, k2, rfl⟩)
      · exact (rel.news b hb).imp id (fun h => by omega)
      · exact .inr (by have := (inv.new k x k1 k2).1; omega)
    · rintro b (hb | ⟨k, x, k1, k2, rfl⟩)
      · exact inv.lt b hb
      · exact (inv.new k x k1 k2).2.1
  | true =>
    simp only [] at h4'
    split at h4'
    · rename_i hnd
      split at h4'
      · rename_i H' hH
        rw [T.ret_some] at h4'
        cases h4'
        have hnd := nodupB_spec hnd
        obtain ⟨q1, q2⟩ := keptB_spec hH
        let β3 : Nat → Option BI := fun p => ((refs2 r0)[p]?).bind β2
        have b3 : ∀ p x, β3 p = some x → ∃ j, (refs2 r0)[p]? = some j ∧ β2 j = some x := by
          intro p x hp
          simp only [β3, Option.bind_eq_some_iff] at hp
          exact hp
        have b4 : ∀ j ∈ refs2 r0, ∀ x, β2 j = some x → β3 (posIn (refs2 r0) j) = some x := by
          intro j hj x hx
          simp only [β3, posIn_get hj, Option.bind_some, hx]
        have pinj : ∀ p j, (refs2 r0)[p]? = some j → posIn (refs2 r0) j = p := by
          intro p j hp
          have h1 := posIn_get (List.mem_of_getElem? hp)
          have l1 := (List.getElem?_eq_some_iff.1 h1)
          have l2 := (List.getElem?_eq_some_iff.1 hp)
          obtain ⟨l1, e1⟩ := l1
          obtain ⟨l2, e2⟩ := l2
          exact nodup_inj hnd l1 l2 (by rw [e1, e2])
        refine ⟨S2, β3, rfl, rel.below.below, rel.sub, fun b hb => (rel.news b hb).imp id (fun h => by omega), inv.lt, ?_, ?_, ?_, ?_, ?_⟩
        · intro k k' x x' k1 k2 r1 r2 e
          obtain ⟨j, j1, j2⟩ := b3 k x k1
          obtain ⟨j', j1', j2'⟩ := b3 k' x' k2
          have := inv.inj j j' x x' j2 j2' r1 r2 e
          subst this
          rw [← pinj k j j1, ← pinj k' j j1']
        · intro k x k1 r1
          obtain ⟨j, j1, j2⟩ := b3 k x k1
          obtain ⟨n1, n2, n3⟩ := inv.new j x j2 r1
          exact ⟨by omega, n2, n3⟩
        · intro k x k1
          obtain ⟨j, j1, j2⟩ := b3 k x k1
          obtain ⟨bl, m1, m2, b2, m3⟩ := q2 j (List.mem_of_getElem? j1)
          rw [pinj k j j1] at m3
          obtain ⟨j', n1, n2, n3, n4⟩ := q1 k b2 m3
          have hj' : j' = j := by
            have := posIn_get n1
            rw [← n2, j1] at this
            cases this; rfl
          subst hj'
          obtain ⟨bl', d1, d2, d3⟩ := inv.dom j' x j2
          rw [n3] at d1
          cases d1
          refine ⟨b2, m3, n4, fun hre => ?_, fun hre => (d3 hre).1⟩
          obtain ⟨cs, ty, c1, c2, c3, c4, c5, c6, c7, c8⟩ := d2 hre
          refine ⟨cs, ty, c1, c2, c3, c4, c5, c6, c7, fun i row hi => ⟨(c8 i row hi).1, fun q y hy => ?_⟩⟩
          obtain ⟨u1, hu, hru⟩ := (c8 i row hi).2 q y hy
          rw [n4] at hru
          exact ⟨u1, hu, by rw [n4]; simpa using hru⟩
        · intro k bl hk
          obtain ⟨j, n1, n2, n3, n4⟩ := q1 k bl hk
          obtain ⟨x, hx⟩ := inv.cov j bl n3
          exact ⟨x, by rw [n2]; exact b4 j n1 x hx⟩
        · -- the result
          have k0 : ∀ x u, (∀ k ∈ refsC x, k ∈ refs2 r0) → RC w' S2 β2 x u → RC w' S2 β3 (keep0 s2.h (refs2 r0) x) u := by
            intro x u hk hx
            by_cases hn : ∃ k, x = .own k
            · obtain ⟨k, rfl⟩ := hn
              obtain ⟨y, y1, y2⟩ := hx
              exact ⟨y, b4 k (hk k (by simp [refsC, refs0])) y y1, y2⟩
            by_cases hw : ∃ k lo n, x = .win k lo n
            · obtain ⟨k, lo, n, rfl⟩ := hw
              exact R0.rc (.unk hx.one)
            · have e : keep0 s2.h (refs2 r0) x = view0 (mget s2.h) x := by cases x <;> first | rfl | exact absurd ⟨_, rfl⟩ hn | exact absurd ⟨_, _, _, rfl⟩ hw
              rw [e]
              exact (view0_noown (fun k e => hn ⟨k, e⟩) (fun k lo n e => hw ⟨k, lo, n, e⟩) hx).rc
          have k1 : ∀ x u, (∀ k ∈ refs1 x, k ∈ refs2 r0) → RT w' S2 β2 x u → RT w' S2 β3 (keep1 s2.h (refs2 r0) x) u := by
            intro x u hk hx
            by_cases hn : ∃ cs, x = .agg cs
            · obtain ⟨cs, rfl⟩ := hn
              obtain ⟨vs, v1, v2⟩ := hx
              exact ⟨vs, v1, v2.map fun b hb u hu => k0 b u (fun k hkk => hk k (by simp only [refs1, List.mem_flatMap]; exact ⟨b, hb, hkk⟩)) hu⟩
            · have hn' : ∀ cs, x ≠ .agg cs := fun cs e => hn ⟨cs, e⟩
              by_cases hun : x = .unk
              · subst hun; trivial
              · rw [RT_eq hn' hun] at hx
                rw [refs1_eq hn'] at hk
                have e : keep1 s2.h (refs2 r0) x = keep0 s2.h (refs2 r0) x := by cases x <;> first | rfl | exact absurd rfl (hn' _)
                rw [e]
                exact (k0 x u hk hx).rt
          by_cases hn : ∃ cs, r0 = .tup cs
          · obtain ⟨cs, rfl⟩ := hn
            obtain ⟨vs, v1, v2⟩ := hu2
            exact ⟨vs, v1, v2.map fun b hb u hu => k1 b u (fun k hkk => by simp only [refs2, List.mem_flatMap]; exact ⟨b, hb, hkk⟩) hu⟩
          · have hn' : ∀ cs, r0 ≠ .tup cs := fun cs e => hn ⟨cs, e⟩
            by_cases hgd : ∃ j b want y, r0 = .gd j b want y
            · obtain ⟨j, b, want, y, rfl⟩ := hgd
              trivial
            · have hgd' : ∀ j b w y, r0 ≠ .gd j b w y := fun j b w y e => hgd ⟨j, b, w, y, e⟩
              rw [RV_eq hn' hgd'] at hu2
              have e : keep2 s2.h (refs2 r0) r0 = keep1 s2.h (refs2 r0) r0 := by cases r0 <;> first | rfl | exact absurd rfl (hn' _)
              rw [e]
              exact RT.rv (k1 r0 u (fun k hkk => by rw [refs2_eq hn' hgd']; exact hkk) hu2)
      · rw [T.fail_some] at h4'; exact h4'.elim
    · rw [T.fail_some] at h4'; exact h4'.elim
theorem runF_sound (ok : EnvOK P E) (hm : P.follows .mixedOrders = true) {f : FuncId} {fn : Func} (hf : P.funcs[f]? = some fn) (hlp : ∀ x ∈ Func.loops fn, ∀ s e s', (E.lp (lid x) s).val = some (e, s') → LoopOK E x s e s')
    {keep : Bool} {args : List AV} {r : AV} {H : Heap} (hr : (runF E keep fn args).val = some (r, H)) : SpecP P E.glob f args r H := by
  intro w S cargs hlt hglob hargs
  unfold runF at hr
  split at hr
  · rw [T.fail_some] at hr; exact hr.elim
  · rename_i c hc
    split at hr
    · rename_i hd
      rw [T.bind_some] at hr
      obtain ⟨⟨e, s2⟩, h1, h2⟩ := hr
      simp only [] at h2
      cases e with
      | normal => rw [T.fail_some] at h2; exact h2.elim
      | exit i => rw [T.fail_some] at h2; exact h2.elim
      | ret =>
        rw [T.bind_some] at h2
        obtain ⟨xs, h3, h4⟩ := h2
        have hlp' : ∀ x ∈ loopsOf c, x ∈ Func.loops fn := fun x hx => by unfold Func.loops; rw [hc]; exact hx
        exact runC_sound ok hf hc hd (fun w S _ N a w' hdN rel Q hQ' => exec_sound ok hm hlp c hlp' hdN _ .ret s2 a w' Q rel h1 hQ') h3 h4 w S cargs hlt hglob hargs
    · rw [T.fail_some] at hr; exact hr.elim
theorem outHeap_of {hg : Nat → Option Blk} {f : Nat → Nat} : ∀ {l : List Nat} {k' : Nat} {bl : Blk}, mget (outHeap hg f l) k' = some bl → ∃ k ∈ l, k' = f k ∧ ∃ b, hg k = some b ∧ bl = b.ren f
  | [], k', bl, hh => by cases hh
  | k :: l, k', bl, hh => by
    simp only [outHeap] at hh
    split at hh
    · rename_i b hb
      simp only [mget] at hh
      split at hh
      · rename_i he
        cases hh
        exact ⟨k, by simp, beq_true.1 he, b, hb, rfl⟩
      · obtain ⟨k1, h1, h2⟩ := outHeap_of hh
        exact ⟨k1, by simp [h1], h2⟩
    · obtain ⟨k1, h1, h2⟩ := outHeap_of hh
      exact ⟨k1, by simp [h1], h2⟩
theorem outHeap_some {hg : Nat → Option Blk} {f : Nat → Nat} : ∀ {l : List Nat} {k : Nat}, k ∈ l → hg k ≠ none → mget (outHeap hg f l) (f k) ≠ none
  | j :: l, k, hk, hb => by
    simp only [outHeap]
    by_cases e : k = j
    · subst e
      cases hj : hg k with
      | none => exact absurd hj hb
      | some b => simp [mget]
    · have hl : k ∈ l := by rcases List.mem_cons.1 hk with h | h; exact absurd h e; exact h
      split
      · simp only [mget]
        split
        · simp
        · exact outHeap_some hl hb
      · exact outHeap_some hl hb
theorem posIn_at {ks : List Nat} (hn : ks.Nodup) {i k : Nat} (hi : ks[i]? = some k) : posIn ks k = i := by
  obtain ⟨l1, e1⟩ := List.getElem?_eq_some_iff.1 (posIn_get (List.mem_of_getElem? hi))
  obtain ⟨l2, e2⟩ := List.getElem?_eq_some_iff.1 hi
  exact nodup_inj hn l1 l2 (by rw [e1, e2])
theorem runH_sound (ok : EnvOK P E) (hm : P.follows .mixedOrders = true) {f : FuncId} {fn : Func} (hf : P.funcs[f]? = some fn) (hlp : ∀ x ∈ Func.loops fn, ∀ s e s', (E.lp (lid x) s).val = some (e, s') → LoopOK E x s e s')
    {mv mv' : List Nat} {args : List AV} {hin : Heap} {r : AV} {H : Heap} (hr : (runH E mv fn args hin).val = some (r, H, mv')) : SpecH P E.glob f args hin r H mv' := by
  intro w S β cargs inv0 hargs
  unfold runH at hr
  split at hr
  · rw [T.fail_some] at hr; exact hr.elim
  · rename_i c hc
    split at hr
    · rename_i hck
      rw [Bool.and_eq_true] at hck
      obtain ⟨hd, hins⟩ := hck
      have hins : ∀ k ∈ hin.map (·.1), inK k ∧ (k ∉ mv → E.mv k = false) := fun k hk => by
        have := List.all_eq_true.1 hins k hk
        rw [Bool.and_eq_true] at this
        refine ⟨isIn_true.1 this.1, fun hn => ?_⟩
        have h2 := this.2
        rw [Bool.or_eq_true] at h2
        rcases h2 with h2 | h2
        · exact absurd (elem_true h2) hn
        · simpa using h2
      rw [T.bind_some] at hr
      obtain ⟨⟨e, s2⟩, h1, h2⟩ := hr
      simp only [] at h2
      have hee : (e = .normal ∨ e = .ret) ∧ ((ress E s2 fn.results.toList).bind fun as => finishH (hin.map (·.1)) mv s2 (resAV as)).val = some (r, H, mv') := by
        cases e with
        | normal => exact ⟨.inl rfl, h2⟩
        | exit i => rw [T.fail_some] at h2; exact h2.elim
        | ret => exact ⟨.inr rfl, h2⟩
      obtain ⟨hee, h2⟩ := hee
      · skip
        rw [T.bind_some] at h2
        obtain ⟨xs, h3, h4⟩ := h2
        refine run_startE ok hm hf hlp hc hd inv0 hargs hee h1 h3 fun w' S2 β2 a' u rel hu2 => ?_
        have inv := rel.inv
        generalize resAV xs = r0 at hu2 h4
        generalize hin.map (·.1) = ins at hins h4
        unfold finishH finH1 finH2 at h4
        split at h4
        · rename_i hck
          rw [T.ret_some] at h4
          cases h4
          rw [Bool.and_eq_true, Bool.and_eq_true] at hck
          obtain ⟨⟨hcl, hnd⟩, hle⟩ := hck
          have hsub : ∀ k ∈ addK ins (refs2 r0), k ∈ reach (mget s2.h) 2 (addK ins (refs2 r0)) := fun k hk => mem_reach 2 hk
          generalize reach (mget s2.h) 2 (addK ins (refs2 r0)) = ks at hcl hnd hle hsub
          have hi : ∀ k ∈ ins, k ∈ ks := fun k hk => hsub k (mem_addK.2 (.inl hk))
          have hr0 : ∀ k ∈ refs2 r0, k ∈ ks := fun k hk => hsub k (mem_addK.2 (.inr hk))
          have hnd := nodupB_spec hnd
          have hcl := closedK_spec hcl
          have hmem : ∀ k, k ∈ (ks.filter fun k => !(ins.elem k)) ↔ k ∈ ks ∧ k ∉ ins := fun k => by rw [List.mem_filter]; simp
          have hndn : (ks.filter fun k => !(ins.elem k)).Nodup := hnd.filter _
          generalize (ks.filter fun k => !(ins.elem k)) = new at hle hmem hndn
          have hle : new.length ≤ 4 := by simpa using hle
          have rin : ∀ k, k ∈ ins → renF ins new k = k := fun k hk => by
            unfold renF
            have : ins.elem k = true := by simpa using hk
            rw [this]
          have rnew : ∀ k, k ∉ ins → renF ins new k = posIn new k := fun k hk => by
            unfold renF
            have : ins.elem k = false := by rw [← Bool.not_eq_true]; exact fun hh => hk (elem_true hh)
            rw [this]
          have pos_lt : ∀ k ∈ ks, k ∉ ins → posIn new k < 4 := fun k hk hn => by
            obtain ⟨l, _⟩ := List.getElem?_eq_some_iff.1 (posIn_get ((hmem k).2 ⟨hk, hn⟩))
            omega
          have inge : ∀ k ∈ ins, 900 ≤ k := fun k hk => (hins k hk).1.1
          have rinj : ∀ k ∈ ks, ∀ k' ∈ ks, renF ins new k = renF ins new k' → k = k' := by
            intro k hk k' hk' e
            by_cases h1 : k ∈ ins <;> by_cases h2 : k' ∈ ins
            · rw [rin k h1, rin k' h2] at e; exact e
            · rw [rin k h1, rnew k' h2] at e
              have := inge k h1; have := pos_lt k' hk' h2; omega
            · rw [rnew k h1, rin k' h2] at e
              have := inge k' h2; have := pos_lt k hk h1; omega
            · rw [rnew k h1, rnew k' h2] at e
              have e1 := posIn_get ((hmem k).2 ⟨hk, h1⟩)
              have e2 := posIn_get ((hmem k').2 ⟨hk', h2⟩)
              rw [e, e2] at e1
              cases e1; rfl
          let β3 : Nat → Option BI := fun k => if k ∈ ins then β2 k else (new[k]?).bind β2
          have b1 : ∀ j ∈ ks, ∀ x, β2 j = some x → β3 (renF ins new j) = some x := by
            intro j hj x hx
            by_cases h1 : j ∈ ins
            · simp only [β3]; rw [rin j h1, if_pos h1]; exact hx
            · have hlt := pos_lt j hj h1
              simp only [β3]
              rw [rnew j h1, if_neg (fun hh => by have := inge _ hh; omega), posIn_get ((hmem j).2 ⟨hj, h1⟩)]
              exact hx
          have b2 : ∀ k x, β3 k = some x → ∃ j ∈ ks, renF ins new j = k ∧ β2 j = some x := by
            intro k x hx
            simp only [β3] at hx
            split at hx
            · rename_i h1; exact ⟨k, hi k h1, rin k h1, hx⟩
            · rw [Option.bind_eq_some_iff] at hx
              obtain ⟨j, j1, j2⟩ := hx
              obtain ⟨q1, q2⟩ := (hmem j).1 (List.mem_of_getElem? j1)
              exact ⟨j, q1, by rw [rnew j q2, posIn_at hndn j1], j2⟩
          have hat : ∀ j ∈ ks, ∀ b, mget s2.h j = some b → mget (outHeap (mget s2.h) (renF ins new) ks) (renF ins new j) = some (b.ren (renF ins new)) := by
            intro j hj b hb
            cases hm : mget (outHeap (mget s2.h) (renF ins new) ks) (renF ins new j) with
            | none => exact absurd hm (outHeap_some hj (by rw [hb]; simp))
            | some bl =>
              obtain ⟨j', q1, q2, b', q3, rfl⟩ := outHeap_of hm
              have := rinj j hj j' q1 q2
              subst this
              rw [hb] at q3
              cases q3; rfl
          have hsz := rel.below.size
          refine ⟨u, S2, β3, rfl, rel.below, rel.sub, rel.news, ⟨fun b hb => by have := hb.1; omega, inv.lt, fun k k' x x' k1 k2 r1 r2 e => ?_, fun k x k1 r1 => ?_, fun k x k1 => ?_, fun k bl k1 => ?_, inv.glob⟩, fun k x hik hmv hx => ?_, ren2_rv (fun k hk y hy => b1 k (hr0 k hk) y hy) hu2⟩
          · obtain ⟨j, _, e1, j2⟩ := b2 k x k1
            obtain ⟨j', _, e2, j2'⟩ := b2 k' x' k2
            rw [← e1, ← e2, inv.inj j j' x x' j2 j2' r1 r2 e]
          · obtain ⟨j, _, e1, j2⟩ := b2 k x k1
            exact inv.new j x j2 r1
          · obtain ⟨j, j1, e1, j2⟩ := b2 k x k1
            obtain ⟨bl, d1, d2, d3⟩ := inv.dom j x j2
            obtain ⟨bl', c1, c2⟩ := hcl j j1
            rw [d1] at c1
            cases c1
            exact ⟨bl.ren (renF ins new), by rw [← e1]; exact hat j j1 bl d1, fun hr => (d2 hr).ren fun q hq y hy => b1 q (c2 q hq) y hy, fun hr => ren_virt (d3 hr)⟩
          · obtain ⟨j, q1, q2, b, q3, rfl⟩ := outHeap_of k1
            obtain ⟨x, hx⟩ := inv.cov j b q3
            exact ⟨x, by rw [q2]; exact b1 j q1 x hx⟩
          · obtain ⟨j, j1, e1, j2⟩ := b2 k x hx
            by_cases hj : j ∈ ins
            · rw [rin j hj] at e1
              subst e1
              exact rel.fix j x hik ((hins j hj).2 hmv) j2
            · rw [rnew j hj] at e1
              have := pos_lt j j1 hj
              have := hik.1
              omega
        · rw [T.fail_some] at h4; exact h4.elim
    · rw [T.fail_some] at hr; exact hr.elim
/-- A call on a slice, by whether it is nil. -/
theorem SpecP.nil {G : Nat → Option GR} {f : FuncId} {rows : List Row} {r : AV} {H : Heap} (h1 : rows = [] → SpecP P G f [.nz true []] r H) (h2 : SpecP P G f [.nz false rows] r H) : SpecP P G f [.sl rows] r H := by
  intro w S cargs hlt hg hargs
  cases cargs with
  | nil => exact hargs.elim
  | cons v l =>
    cases l with
    | cons u l => exact hargs.2.elim
    | nil =>
      have h0 : R0 w S (.sl rows) v := hargs.1
      cases hv : isNilV v
      · exact h2 w S [v] hlt hg ⟨⟨h0, hv⟩, trivial⟩
      · have hr : rows = [] := by
          cases h0 with
          | sl hc hm hA hl hcell hr =>
            by_cases hn : rows = []
            · exact hn
            · rw [(hA hn).1] at hv; cases hv
        subst hr
        exact h1 rfl w S [v] hlt hg ⟨⟨h0, hv⟩, trivial⟩
end

end

end Go.Proofs.YtgkjfochkhiojaaDoor.M
