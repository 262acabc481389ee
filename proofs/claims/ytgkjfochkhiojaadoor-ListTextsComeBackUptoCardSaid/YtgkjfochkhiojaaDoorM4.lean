/- What is proved here: The machine is sound: results, regions and open orders (no statement of the seat). -/
import Derived.Test.YtgkjfochkhiojaaDoorM3
import Derived.Orders
namespace Go.Proofs.YtgkjfochkhiojaaDoor.M
open Go Go.RowKit
set_option linter.unusedVariables false
set_option linter.unusedSimpArgs false

section

variable {P : Program} {E : Env}
section
variable {B : Nat → Prop} {N : Nat} {β0 : Nat → Option BI} {o : Oper} {a : Act} {w w' w0 : World} {S S' S0 : Nat → Prop} {β β' : Nat → Option BI} {h : Heap} {av : AV} {v : Value} {t : Tmps} {s s' : St} {g : Option (Nat × Bool)}
/-- With the block of key k. -/
def plusK (S : Nat → Prop) (β : Nat → Option BI) (k : Nat) : Nat → Prop := fun b => S b ∨ ∃ x, β k = some x ∧ x.real = true ∧ x.b = b
def lessK (β : Nat → Option BI) (k : Nat) : Nat → Option BI := fun j => if j = k then none else β j
theorem own_slK (inv : Inv E B w S β h) {k : Nat} {bl : Blk} (hbox : bl.box = false) (hk : mget h k = some bl) (hv : RP w S β (.own k) v) : R0 w (plusK S β k) (.sl bl.rows) v := by
  obtain ⟨X, hX, h1, h2⟩ := hv
  obtain ⟨bl', hb, h3, h4⟩ := inv.dom k X hX
  rw [hk] at hb
  cases hb
  cases hr : X.real
  · obtain ⟨A, rfl⟩ := h2 hr
    rw [(h4 hr).1]
    exact R0.sl (rows := []) (size := 0) (b := 0) (off := 0) (vals := fun _ _ => .nilFunc) (by simp) (by simp) (by simp) (by simp) (by simp) (by simp)
  · obtain ⟨cs, ty, c1, c2, c3, c4, c5, c6, c7, c8⟩ := h3 hr
    rw [h1 hr, ← c3]
    refine R0.sl (size := X.size) (b := X.b) (off := 0) (vals := fun i j => (cs[i * X.size + j]?).getD .nilFunc) (by omega) c5 (fun _ => ⟨rfl, .inr ⟨X, hX, hr, rfl⟩⟩) (fun i row hi => (c8 i row hi).1) (fun i j row x hi hj => ?_) (fun i j row x hi hj => ?_)
    · obtain ⟨u, hu, _⟩ := (c8 i row hi).2 j x hj
      simp [World.cell?, c1, hu]
    · obtain ⟨u, hu, hru⟩ := (c8 i row hi).2 j x hj
      rw [hbox] at hru
      simp only [hu, Option.getD_some]
      exact R0.mono (fun _ _ => rfl) (fun b hb => .inl hb) (by simpa using hru)
theorem win_slK (inv : Inv E B w S β h) {k lo n : Nat} {bl : Blk} (hbox : bl.box = false) (hk : mget h k = some bl) (hv : RP w S β (.win k lo n) v) : R0 w (plusK S β k) (.sl ((bl.rows.drop lo).take n)) v := by
  obtain ⟨X, hX, A, c, rfl, hc, hm, hn⟩ := hv
  obtain ⟨bl', hb, h3, h4⟩ := inv.dom k X hX
  rw [hk] at hb
  cases hb
  exact win_cut (k := k) (fun b hb => .inl hb) hbox (fun hr => .inr ⟨X, hX, hr, rfl⟩) h3 hc hm hn
theorem frzL_rp (inv : Inv E B w S β h) {k : Nat} {bl : Blk} (hbox : bl.box = false) (hk : mget h k = some bl) {x : AV} (hr : RP w S β x v) : RP w (plusK S β k) (lessK β k) (frzL k bl x) v := by
  have keep : ∀ j, j ≠ k → ∀ y, β j = some y → lessK β k j = some y := fun j hj y hy => by simp [lessK, hj, hy]
  have h1 := hr.one
  cases x <;> simp only [frzL]
  case own j =>
    split
    · rename_i hj
      obtain rfl := beq_true.1 hj
      exact R0.rp (own_slK inv hbox hk hr)
    · rename_i hj
      obtain ⟨y, hy, h2⟩ := hr
      exact ⟨y, keep j (beq_false.1 hj) y hy, h2⟩
  case win j lo n =>
    split
    · rename_i hj
      obtain rfl := beq_true.1 hj
      exact R0.rp (win_slK inv hbox hk hr)
    · rename_i hj
      obtain ⟨y, hy, h2⟩ := hr
      exact ⟨y, keep j (beq_false.1 hj) y hy, h2⟩
  case ptr j i o =>
    split
    · exact .unk h1
    · rename_i hj
      obtain ⟨y, hy, h2⟩ := hr
      exact ⟨y, keep j (beq_false.1 hj) y hy, h2⟩
  case gd => exact .unk h1
  case e0 => exact hr
  case pel row off => obtain ⟨b, o, e1, e2⟩ := hr; exact ⟨b, o, e1, e2.mono (fun _ _ => rfl) fun b hb => .inl hb⟩
  case nz b rows => exact ⟨R0.mono (fun _ _ => rfl) (fun b hb => .inl hb) hr.1, hr.2⟩
  all_goals exact R0.mono (fun _ _ => rfl) (fun b hb => .inl hb) hr
theorem frzL_nofn {k : Nat} {bl : Blk} {x : AV} (hn : ∀ f cs, x ≠ .fn f cs) : ∀ f cs, frzL k bl x ≠ .fn f cs := by
  intro f cs e
  cases x <;> simp only [frzL] at e <;> first | (split at e <;> cases e; done) | (cases e; done) | exact hn _ _ rfl
theorem frz0_rc (inv : Inv E B w S β h) {k : Nat} {bl : Blk} (hbox : bl.box = false) (hk : mget h k = some bl) {x : AV} (hr : RC w S β x v) : RC w (plusK S β k) (lessK β k) (frz0 k bl x) v := by
  by_cases hn : ∃ f cs, x = .fn f cs
  · obtain ⟨f, cs, rfl⟩ := hn
    obtain ⟨vs, e1, e2⟩ := hr
    exact ⟨vs, e1, e2.map fun b hb u hu => frzL_rp inv hbox hk hu⟩
  · have hn' : ∀ f cs, x ≠ .fn f cs := fun f cs e => hn ⟨f, cs, e⟩
    rw [RC_eq hn'] at hr
    have e : frz0 k bl x = frzL k bl x := by cases x <;> first | rfl | exact absurd rfl (hn' _ _)
    rw [e, RC_eq (frzL_nofn hn')]
    exact frzL_rp inv hbox hk hr
theorem frz1_rt (inv : Inv E B w S β h) {k : Nat} {bl : Blk} (hbox : bl.box = false) (hk : mget h k = some bl) {x : AV} (hr : RT w S β x v) : RT w (plusK S β k) (lessK β k) (frz1 k bl x) v := by
  by_cases hn : ∃ cs, x = .agg cs
  · obtain ⟨cs, rfl⟩ := hn
    obtain ⟨vs, h1, h2⟩ := hr
    exact ⟨vs, h1, h2.map fun b hb u hu => frz0_rc inv hbox hk hu⟩
  · have hn' : ∀ cs, x ≠ .agg cs := fun cs e => hn ⟨cs, e⟩
    by_cases hu : x = .unk
    · subst hu; trivial
    · rw [RT_eq hn' hu] at hr
      have e : frz1 k bl x = frz0 k bl x := by cases x <;> first | rfl | exact absurd rfl (hn' _)
      rw [e]
      exact (frz0_rc inv hbox hk hr).rt
theorem frz2_rv (inv : Inv E B w S β h) {k : Nat} {bl : Blk} (hbox : bl.box = false) (hk : mget h k = some bl) {x : AV} (hr : RV w S β x v) : RV w (plusK S β k) (lessK β k) (frz2 k bl x) v := by
  by_cases hn : ∃ cs, x = .tup cs
  · obtain ⟨cs, rfl⟩ := hn
    obtain ⟨vs, h1, h2⟩ := hr
    exact ⟨vs, h1, h2.map fun b hb u hu => frz1_rt inv hbox hk hu⟩
  · by_cases hu : ∃ j b want y, x = .gd j b want y
    · obtain ⟨j, b, want, y, rfl⟩ := hu
      trivial
    · have hn' : ∀ cs, x ≠ .tup cs := fun cs e => hn ⟨cs, e⟩
      have hu' : ∀ j b w y, x ≠ .gd j b w y := fun j b w y e => hu ⟨j, b, w, y, e⟩
      rw [RV_eq hn' hu'] at hr
      have e : frz2 k bl x = frz1 k bl x := by cases x <;> first | rfl | exact absurd rfl (hn' _)
      rw [e]
      exact RT.rv (frz1_rt inv hbox hk hr)
theorem frz2_nogd {k : Nat} {bl : Blk} {x : AV} {j : Nat} {b want : Bool} {y : AV} : frz2 k bl x ≠ .gd j b want y := by
  intro e
  cases x <;> simp only [frz2, frz1, frz0, frzL] at e <;> first | (split at e <;> cases e; done) | (cases e; done)
theorem mget_filter {α : Type} (f : Nat → Bool) (m : List (Nat × α)) (k : Nat) : mget (m.filter fun p => f p.1) k = if f k = true then mget m k else none := by
  induction m with
  | nil => simp [mget]
  | cons p r ih =>
    obtain ⟨j, x⟩ := p
    simp only [List.filter_cons]
    cases hf : f j
    · simp only [Bool.false_eq_true, if_false, ih, mget]
      cases hb : Nat.beq k j
      · rfl
      · rw [beq_true.1 hb, hf]; rfl
    · simp only [if_true, mget, ih]
      cases hb : Nat.beq k j
      · rfl
      · rw [beq_true.1 hb, hf]; rfl
theorem freeze_rel (rel : Rel E B N w0 S0 β0 s a w S β) (k : Nat) : ∃ S' β', Rel E B N w0 S0 β0 (s.freeze k) a w S' β' := by
  unfold St.freeze
  split
  · rename_i bl hbl
    split
    · exact ⟨S, β, rel⟩
    · rename_i hbox
      have inv := rel.inv
      refine ⟨plusK S β k, lessK β k, ?_, fun n => ?_, fun n j b want x hn => ?_, rel.below, fun b hb => .inl (rel.sub b hb), ?_, fun j x hi hm hx => rel.fix j x hi hm (by unfold lessK at hx; split at hx; cases hx; exact hx), rel.size, rel.defers⟩
      · have lk : ∀ j x, lessK β k j = some x → j ≠ k ∧ β j = some x := by
          intro j x hx
          unfold lessK at hx
          split at hx
          · cases hx
          · exact ⟨‹_›, hx⟩
        refine ⟨inv.base, ?_, fun j j' x x' h1 h2 => inv.inj j j' x x' (lk j x h1).2 (lk j' x' h2).2, ?_, ?_, ?_, fun gl row hg => (inv.glob gl row hg).mono (fun _ _ => rfl) fun b hb => .inl hb⟩
        · rintro b (hb | ⟨x, h1, h2, rfl⟩)
          · exact inv.lt b hb
          · exact (inv.new k x h1 h2).2.1
        · intro j x h1 r1
          obtain ⟨hj, hx⟩ := lk j x h1
          obtain ⟨n1, n2, n3⟩ := inv.new j x hx r1
          refine ⟨n1, n2, ?_⟩
          rintro (hs | ⟨y, h2, h3, e⟩)
          · exact n3 hs
          · exact hj (inv.inj j k x y hx h2 r1 h3 e.symm)
        · intro j x h1
          obtain ⟨hj, hx⟩ := lk j x h1
          obtain ⟨b1, a1, a2, a3⟩ := inv.dom j x hx
          refine ⟨b1.frz k bl, by show mget ((s.h.filter fun p => !Nat.beq p.1 k).map fun p => (p.1, p.2.frz k bl)) j = _; rw [mget_map (fun c => Blk.frz k c bl), mget_filter (fun q => !Nat.beq q k), if_pos (by simp [beq_false.2 hj]), a1]; rfl, fun hr => ?_, fun hr => ?_⟩
          · obtain ⟨cs, ty, c1, c2, c3, c4, c5, c6, c7, c8⟩ := a2 hr
            unfold Blk.frz
            split
            · rename_i hb1
              refine ⟨cs, ty, c1, c2, by simpa using c3, c4, c5, c6, c7, fun i row hi => ?_⟩
              have hi : (b1.rows.map (·.map (frz0 k bl)))[i]? = some row := hi
              simp only [List.getElem?_map, Option.map_eq_some_iff] at hi
              obtain ⟨row0, hi0, rfl⟩ := hi
              refine ⟨by simpa using (c8 i row0 hi0).1, fun q y hq => ?_⟩
              simp only [List.getElem?_map, Option.map_eq_some_iff] at hq
              obtain ⟨y1, hq1, rfl⟩ := hq
              obtain ⟨u, hu, hru⟩ := (c8 i row0 hi0).2 q y1 hq1
              rw [hb1] at hru
              exact ⟨u, hu, by rw [hb1]; simp only [if_true] at hru ⊢; exact frz0_rc inv hbox hbl hru⟩
            · rename_i hb1
              refine ⟨cs, ty, c1, c2, c3, c4, c5, c6, c7, fun i row hi => ?_⟩
              refine ⟨(c8 i row hi).1, fun q y hq => ?_⟩
              obtain ⟨u, hu, hru⟩ := (c8 i row hi).2 q y hq
              rw [hb1] at hru
              exact ⟨u, hu, by rw [hb1]; simp only [Bool.false_eq_true, if_false] at hru ⊢; exact hru.mono (fun _ _ => rfl) fun b hb => .inl hb⟩
          · obtain ⟨q1, q2⟩ := a3 hr
            unfold Blk.frz
            rw [q2]
            exact ⟨q1, q2⟩
        · intro j b1 h1
          have h1 : mget ((s.h.filter fun p => !Nat.beq p.1 k).map fun p => (p.1, p.2.frz k bl)) j = some b1 := h1
          rw [mget_map (fun c => Blk.frz k c bl), mget_filter (fun q => !Nat.beq q k)] at h1
          split at h1
          · rename_i hj
            have hj : j ≠ k := beq_false.1 (by simpa using hj)
            cases hm : mget s.h j with
            | none => rw [hm] at h1; cases h1
            | some b2 =>
              obtain ⟨x, hx⟩ := inv.cov j b2 hm
              exact ⟨x, by simp [lessK, hj, hx]⟩
          · cases h1
      · show RV w _ _ (getT (s.t.map fun p => (p.1, frz2 k bl p.2)) n) _
        rw [getT_map s.t (frz2 k bl) rfl n]
        exact frz2_rv inv hbox hbl (rel.tok n)
      · have hn : getT (s.t.map fun p => (p.1, frz2 k bl p.2)) n = .gd j b want x := hn
        rw [getT_map s.t (frz2 k bl) rfl n] at hn
        exact absurd hn frz2_nogd
      · rintro b (hb | ⟨x, h1, h2, rfl⟩)
        · exact rel.news b hb
        · exact .inr (inv.new k x h1 h2).1
  · exact ⟨S, β, rel⟩
theorem freezes_rel : ∀ (ks : List Nat) {s : St} {S : Nat → Prop} {β : Nat → Option BI}, Rel E B N w0 S0 β0 s a w S β → ∃ S' β', Rel E B N w0 S0 β0 (s.freezes ks) a w S' β'
  | [], s, S, β, rel => ⟨S, β, rel⟩
  | k :: r, s, S, β, rel => by
    obtain ⟨S1, β1, rel1⟩ := freeze_rel rel k
    exact freezes_rel r rel1
theorem frz2_bool {k : Nat} {bl : Blk} {x : AV} {b : Bool} (hx : x = .v (.bool b)) : frz2 k bl x = .v (.bool b) := by subst hx; rfl

theorem freeze_bool {k d : Nat} {b : Bool} (hb : getT s.t d = .v (.bool b)) : getT (s.freeze k).t d = .v (.bool b) := by
  unfold St.freeze
  split
  · split
    · exact hb
    · show getT (s.t.map fun p => (p.1, frz2 k _ p.2)) d = _
      rw [getT_map s.t (frz2 k _) rfl d, hb]; rfl
  · exact hb
theorem freezes_bool {d : Nat} {b : Bool} : ∀ (ks : List Nat) {s : St}, getT s.t d = .v (.bool b) → getT (s.freezes ks).t d = .v (.bool b)
  | [], s, hb => hb
  | k :: r, s, hb => freezes_bool r (freeze_bool hb)
theorem isApp_some {op : Op} {x y : Operand} {ty : TypeId} (hi : isApp op = some (x, y, ty)) : op = .call ⟨.builtin .append, #[x, y], #[ty, ty]⟩ := by
  unfold isApp at hi
  split at hi
  · rename_i c
    obtain ⟨callee, args, ts⟩ := c
    split at hi
    · rename_i hc
      simp only at hc hi
      subst hc
      split at hi
      · rename_i x' y' t' t'' ha hts
        split at hi
        · rename_i htt
          obtain rfl := beq_true.1 htt
          simp only [Option.some.injEq, Prod.mk.injEq] at hi
          obtain ⟨rfl, rfl, rfl⟩ := hi
          obtain rfl : args = #[x', y'] := by cases args; simp at ha; simp [ha]
          obtain rfl : ts = #[t', t'] := by cases ts; simp at hts; simp [hts]
          rfl
        · cases hi
      · cases hi
    · cases hi
  · cases hi
theorem hcallOf_some {ρ : Operand → AV} {op : Op} {f : FuncId} {args : List AV} (hc : hcallOf E ρ op = some (f, args)) : ∃ c fo caps, op = .call c ∧ c.callee = .value fo ∧ ρ fo = .fn f caps ∧ args = c.args.toList.map ρ ++ caps := by
  unfold hcallOf at hc
  split at hc
  · rename_i c
    split at hc
    · rename_i fo hfo
      split at hc
      · rename_i f' caps hcap
        split at hc
        · simp only [Option.some.injEq, Prod.mk.injEq] at hc
          obtain ⟨rfl, rfl⟩ := hc
          exact ⟨c, fo, caps, rfl, hfo, hcap, rfl⟩
        · cases hc
      · cases hc
    · cases hc
  · cases hc
theorem step1_sound (ok : EnvOK P E) (rel : Rel E B N w0 S0 β0 s a w S β) (hg : GuardOK a g) (hd : ∀ d, o.dst = some d → d < N) {wr : Option (List Nat × List Nat)} (hn : (step1 E g s o).val = some (s', wr)) : StepOK P E B N w0 S0 β0 o a w s' := by
  unfold step1 at hn
  split at hn
  · rename_i x y ty hi
    have ho := isApp_some hi
    split at hn
    · rename_i j hj
      rw [T.bind_some] at hn
      obtain ⟨p, h1, h2⟩ := hn
      have hx := rel.args hg (E := E) x
      have hj' : ρOf E g s.t x = .own j := by unfold ownOf at hj; split at hj <;> first | (cases hj; assumption) | (cases hj)
      rw [hj'] at hx
      exact kfin_sound rel hd (appOwn_sound ok rel.inv hx (rel.args hg (E := E) y) ho h1) h2
    · rw [T.bind_some] at hn
      obtain ⟨⟨s1, ws⟩, h1, h2⟩ := hn
      rw [show wrS (s1, ws) = .ret (s1, some (ws, [])) from rfl, T.ret_some] at h2
      cases h2
      exact norm_sound ok rel hg hd h1
  · split at hn
    · rename_i f uargs hc
      rw [T.bind_some] at hn
      obtain ⟨p, h1, h2⟩ := hn
      obtain ⟨c, fo, caps, c1, c2, c3, c4⟩ := hcallOf_some hc
      have hf := rel.args hg (E := E) fo
      rw [c3] at hf
      subst c4
      exact kfin_sound rel hd (callH_sound ok rel.inv c1 c2 hf (args_rl (rel.args hg (E := E)) _) h1) h2
    split at hn
    · rw [T.bind_some] at hn
      obtain ⟨⟨s1, ws⟩, h1, h2⟩ := hn
      rw [show wrS (s1, ws) = .ret (s1, some (ws, [])) from rfl, T.ret_some] at h2
      cases h2
      exact norm_sound ok rel hg hd h1
    · split at hn
      · rename_i hpl
        rw [T.bind_some] at hn
        obtain ⟨⟨s1, ws⟩, h1, h2⟩ := hn
        rw [show wrA (s1, ws) = .ret (s1, none) from rfl, T.ret_some] at h2
        cases h2
        obtain ⟨S1, β1, rel1⟩ := freezes_rel (frz E (ρOf E g s.t) o.dst o.op) rel
        refine norm_sound ok rel1 (fun d want hgd => ?_) hd h1
        exact hg d want hgd
      · rw [T.fail_some] at hn; exact hn.elim
/-- A step, with its guard, as the region's list of operations takes it. -/
def OpOK (P : Program) (E : Env) (B : Nat → Prop) (N : Nat) (w0 : World) (S0 : Nat → Prop) (β0 : Nat → Option BI) (ops : Array Oper) (o : Oper) (a : Act) (w : World) (s' : St) : Prop :=
  ∀ (K : Act → World → Prop) (Q : Exit → Act → World → Prop), (∀ a' w', RelE E B N w0 S0 β0 s' a' w' → K a' w') →
    if Region.wanted o (yielded ops a.tmps) then o.wp P a w K Q else K (a.put o.dst undef) w
theorem skip_rel (rel : Rel E B N w0 S0 β0 s a w S β) (hd : ∀ d, o.dst = some d → d < N) (x : AV) (hx : RV w S β x undef) (hg : GdOK (setD s.t o.dst x) (a.put o.dst undef)) : RelE E B N w0 S0 β0 ⟨setD s.t o.dst x, s.h⟩ (a.put o.dst undef) w :=
  ⟨S, β, rel.inv, rel.tok.put (fun d hdd => by rw [rel.size]; exact hd d hdd) hx, hg, rel.below, rel.sub, rel.news, rel.fix, by rw [put_size]; exact rel.size, by rw [put_defers]; exact rel.defers⟩
theorem yielded_eq {ops : Array Oper} {j d : Nat} (hj : dstOf ops.toList j = some d) {b : Bool} (hb : a.tmps.getD d undef = .bool b) (hlt : d < a.tmps.size) : yielded ops a.tmps j = some b := by
  unfold dstOf at hj
  split at hj
  · rename_i o ho
    simp only [Array.getElem?_toList] at ho
    simp only [yielded, ho, Option.bind_some, hj]
    simp only [Array.getD_eq_getD_getElem?, Array.getElem?_eq_getElem hlt, Option.getD_some] at hb
    rw [Array.getElem?_eq_getElem hlt, hb]
  · cases hj
theorem safe_nil {ρ : Operand → AV} {hg : Nat → Option Blk} {p : AV × Heap} (hs : safeOp o.op = true) (hp : (eff E ρ hg o).val = some p) : p.2 = [] := by
  have pl : ∀ {t : T AV} {p : AV × Heap}, t.plain.val = some p → p.2 = [] := fun {t p} h => by rw [T.plain_some] at h; obtain ⟨a, _, rfl⟩ := h; rfl
  unfold eff at hp
  split at hp <;> first | (rw [T.fail_some] at hp; exact hp.elim) | skip
  all_goals rename_i ho
  all_goals rw [ho] at hs
  all_goals first | (simp [safeOp] at hs; done) | skip
  · rw [show plain _ = .ret _ from rfl, T.ret_some] at hp; subst hp; rfl
  · split at hp
    · split at hp
      · exact pl hp
      · rw [T.fail_some] at hp; exact hp.elim
    · rw [T.fail_some] at hp; exact hp.elim
  · split at hp <;> exact pl hp
  · exact pl hp
  · split at hp
    · exact pl hp
    · rw [T.fail_some] at hp; exact hp.elim
  · split at hp
    · exact pl hp
    · rw [T.fail_some] at hp; exact hp.elim
  · split at hp
    · exact pl hp
    · rw [T.fail_some] at hp; exact hp.elim
  · rename_i c
    split at hp
    · rename_i b hb
      simp only [safeOp, hb] at hs
      unfold builtinK at hp
      split at hp <;> first | (rw [T.fail_some] at hp; exact hp.elim) | (simp at hs; done) | skip
      split at hp
      · split at hp
        · exact pl hp
        · rw [T.fail_some] at hp; exact hp.elim
      · rw [T.fail_some] at hp; exact hp.elim
    · rename_i f hb
      simp only [safeOp, hb] at hs
      cases hs
    · rw [T.fail_some] at hp; exact hp.elim
theorem skip_sound (rel : Rel E B N w0 S0 β0 s a w S β) (hd : ∀ d, o.dst = some d → d < N) {ops : Array Oper} {j d : Nat} {want : Bool} (hgu : o.guard = some (j, want)) (hno : Region.wanted o (yielded ops a.tmps) = false) (hm : mget s.t d ≠ none) (hne : a.tmps.getD d undef ≠ .bool want)
    {wr : Option (List Nat × List Nat)} (hs : (skipO s o d want).val = some (s', wr)) : OpOK P E B N w0 S0 β0 ops o a w s' := by
  intro K Q hK
  rw [if_neg (by rw [hno]; simp)]
  rw [show skipO s o d want = .ret (⟨setD s.t o.dst (skipV o s.t d want), s.h⟩, some ([], [])) from rfl, T.ret_some] at hs
  cases hs
  have hx : RV w S β (skipV o s.t d want) undef ∧ GdOK (setD s.t o.dst (skipV o s.t d want)) (a.put o.dst undef) := by
    unfold skipV
    split
    · rename_i hnd
      refine ⟨⟨(fun h => by cases h), fun _ => rfl⟩, rel.gd.set _ _ fun d' j' b' want' x' hdst hx => ?_⟩
      cases hx
      unfold notDst at hnd
      rw [hdst] at hnd
      simp only [Bool.and_eq_true, Bool.not_eq_true'] at hnd
      exact ⟨fun e => (beq_false.1 hnd.1) e.symm, hm, ⟨(fun h => by cases h), fun h => absurd h hne⟩⟩
    · exact ⟨trivial, rel.gd.set _ _ fun d j b want x _ hx => by cases hx⟩
  exact hK _ _ (skip_rel rel hd _ hx.1 hx.2)
theorem safeAt_true {d : Nat} {want : Bool} (h : safeAt E s o d want = true) : safeOp o.op = true ∧ notDst o s.t d = true := by
  unfold safeAt at h
  split at h
  · rename_i h1
    simp only [Bool.and_eq_true] at h
    exact ⟨h1, h.1⟩
  · cases h
theorem guarded_sound (ok : EnvOK P E) (rel : Rel E B N w0 S0 β0 s a w S β) (hd : ∀ d, o.dst = some d → d < N) {ops : Array Oper} {j d : Nat} {f want : Bool} (hgu : o.guard = some (j, want)) (hm : mget s.t d ≠ none) (hf : f = true ↔ a.tmps.getD d undef = .bool want)
    (hw : Region.wanted o (yielded ops a.tmps) = true ↔ f = true) {wr : Option (List Nat × List Nat)} (hn : (guarded E s o d f want).val = some (s', wr)) : OpOK P E B N w0 S0 β0 ops o a w s' := by
  have hskip : f = false → (skipO s o d want).val = some (s', wr) → OpOK P E B N w0 S0 β0 ops o a w s' := by
    intro hne hs
    exact skip_sound rel hd hgu (by cases hq : Region.wanted o (yielded ops a.tmps) <;> simp_all) hm (fun e => by rw [hf.2 e] at hne; cases hne) hs
  unfold guarded at hn
  split at hn
  · rename_i hsafe
    obtain ⟨hsafe, hnd⟩ := safeAt_true hsafe
    split at hn
    · rename_i p hp
      split at hn
      · rename_i hfl
        rw [T.ret_some] at hn
        cases hn
        -- the new temporary knows its guard
        have hgd : ∀ u, GdOK (setD s.t o.dst (.gd d f want p.1)) (a.put o.dst u) := fun u => rel.gd.set _ _ fun d' j' b' want' x' hdst hx => by
          cases hx
          unfold notDst at hnd
          rw [hdst] at hnd
          simp only [Bool.and_eq_true, Bool.not_eq_true'] at hnd
          exact ⟨fun e => (beq_false.1 hnd.1) e.symm, hm, hf⟩
        intro K Q hK
        cases hfv : f with
        | true =>
          rw [if_pos (hw.2 hfv)]
          have hg : GuardOK a (some (d, want)) := fun d' want' e => by cases e; exact hf.1 hfv
          refine eff_sound ok rel.inv (rel.args hg) (rel.picks hg) hp K Q fun v w' S' β' inv' gr hv => hK _ _ ⟨S', β', ?_, ?_, hgd v, rel.below.trans gr.below, fun q hq => gr.sub q (rel.sub q hq), fun q hq => (gr.news q hq).elim (rel.news q) .inr, fun k x hi hm hx => rel.fix k x hi hm (gr.old k x hi hx), by rw [put_size]; exact rel.size, by rw [put_defers]; exact rel.defers⟩
          · -- safe operations write no block
            have hws : p.2 = [] := safe_nil hsafe hp
            rw [hws] at inv'
            exact inv'
          · refine TOK.put (fun n => gr.rv (rel.tok n)) (fun d hdd => by rw [rel.size]; exact hd d hdd) ⟨fun _ => ?_, fun hne => by rw [hfv] at hne; cases hne⟩
            have : RV w' S' β' p.1 v := hv
            cases hp1 : p.1 <;> rw [hp1] at this hfl <;> first | exact this | (simp [isFlat] at hfl)
        | false =>
          rw [if_neg (fun h => by rw [hw.1 h] at hfv; cases hfv)]
          exact hK _ _ (skip_rel rel hd _ ⟨(fun e => by rw [hfv] at e; cases e), fun _ => rfl⟩ (hgd _))
      · rw [T.fail_some] at hn; exact hn.elim
    · rw [T.ifB_some] at hn
      rcases hn with ⟨_, hn⟩ | ⟨hq, hn⟩
      · rw [T.fail_some] at hn; exact hn.elim
      · exact hskip hq hn
  · rw [T.ifB_some] at hn
    rcases hn with ⟨hq, hn⟩ | ⟨hq, hn⟩
    · intro K Q hK
      rw [if_pos (hw.2 hq)]
      exact step1_sound ok rel (fun d' want' e => by cases e; exact hf.1 hq) hd hn K Q hK
    · exact hskip hq hn
theorem yielded_at {ops : Array Oper} {j d : Nat} (hj : dstOf ops.toList j = some d) (hlt : d < a.tmps.size) (want : Bool) : yielded ops a.tmps j = some want ↔ a.tmps.getD d undef = .bool want := by
  unfold dstOf at hj
  split at hj
  · rename_i o ho
    simp only [Array.getElem?_toList] at ho
    simp only [yielded, ho, Option.bind_some, hj]
    simp only [Array.getD_eq_getD_getElem?, Array.getElem?_eq_getElem hlt, Option.getD_some]
    cases a.tmps[d] <;> simp
  · cases hj
theorem stepG_sound (ok : EnvOK P E) (rel : Rel E B N w0 S0 β0 s a w S β) (hd : ∀ d, o.dst = some d → d < N) {ops : Array Oper} (hdo : ∀ j d, dstOf ops.toList j = some d → d < N) {wr : Option (List Nat × List Nat)} (hn : (stepG E ops.toList s o).val = some (s', wr)) : OpOK P E B N w0 S0 β0 ops o a w s' := by
  unfold stepG at hn
  split at hn
  · rename_i hgu
    intro K Q hK
    rw [if_pos (by simp [Region.wanted, hgu])]
    exact step1_sound ok rel (fun d want e => by cases e) hd hn K Q hK
  · rename_i j want hgu
    split at hn
    · rename_i d hj
      have hlt : d < a.tmps.size := by rw [rel.size]; exact hdo j d hj
      have ht := rel.tok d
      have hya := yielded_at (a := a) hj hlt want
      have hwa : Region.wanted o (yielded ops a.tmps) = true ↔ a.tmps.getD d undef = .bool want := by
        rw [← hya]
        simp only [Region.wanted, hgu]
        simp
      have hm : getT s.t d ≠ .unk → mget s.t d ≠ none := fun hu hh => hu (by unfold getT; rw [hh])
      split at hn
      · rename_i b hb
        rw [hb] at ht
        have hv := (rv_v ht).1
        have hf : asked b want = true ↔ a.tmps.getD d undef = .bool want := by rw [hv, asked_eq]; simp
        exact guarded_sound ok rel hd hgu (hm (by rw [hb]; simp)) hf (hwa.trans hf.symm) hn
      · rename_i j' f w' b hb
        rw [hb] at ht
        have hf : (f && asked b want) = true ↔ a.tmps.getD d undef = .bool want := by
          rw [Bool.and_eq_true]
          cases hfv : f with
          | true =>
            have hv := (rv_v (RT.rv (ht.1 hfv))).1
            rw [hv, asked_eq]; simp
          | false =>
            have hv := ht.2 hfv
            rw [hv]
            constructor
            · rintro ⟨h, _⟩; cases h
            · intro h; cases h
        exact guarded_sound ok rel hd hgu (hm (by rw [hb]; simp)) hf (hwa.trans hf.symm) hn
      · rename_i j' f w' x hnb hb
        rw [hb] at ht
        rw [T.ifB_some] at hn
        rcases hn with ⟨_, hn⟩ | ⟨hq, hn⟩
        · rw [T.fail_some] at hn; exact hn.elim
        · have hv := ht.2 hq
          have hne : a.tmps.getD d undef ≠ .bool want := by rw [hv]; intro h; cases h
          exact skip_sound rel hd hgu (by cases hq' : Region.wanted o (yielded ops a.tmps) <;> simp_all) (hm (by rw [hb]; simp)) hne hn
      · rw [T.fail_some] at hn; exact hn.elim
    · rw [T.fail_some] at hn; exact hn.elim
end

end

section

variable {P : Program} {E : Env}
section
variable {B : Nat → Prop} {N : Nat} {β0 : Nat → Option BI} {o : Oper} {a : Act} {w w' w0 : World} {S S' S0 : Nat → Prop} {β β' : Nat → Option BI} {h : Heap} {av : AV} {v : Value} {t : Tmps} {s s' : St} {g : Option (Nat × Bool)}
/-- Where the operations' results go. -/
def DstOK (N : Nat) (ops : Array Oper) : Prop := ∀ o ∈ ops.toList, ∀ d, o.dst = some d → d < N
theorem DstOK.at {ops : Array Oper} (hd : DstOK N ops) {j d : Nat} (hj : dstOf ops.toList j = some d) : d < N := by
  unfold dstOf at hj
  split at hj
  · rename_i o ho; exact hd o (List.mem_of_getElem? ho) d hj
  · cases hj
theorem wpOp_of {ops : Array Oper} {i : Nat} {Q : Exit → Act → World → Prop} {K : Act → World → Prop} (hi : ops[i]? = some o) (ho : OpOK P E B N w0 S0 β0 ops o a w s') (hK : ∀ a' w', RelE E B N w0 S0 β0 s' a' w' → K a' w') : wpOp P ops Q i K a w := by
  have := ho K Q hK
  unfold wpOp
  simp only [hi]
  split
  · rename_i hw; rw [if_pos hw] at this; exact .inl this
  · rename_i hw; rw [if_neg hw] at this; exact this
theorem renew_sound (inv : Inv E B w S β h) {d : Nat} {x : Operand} (hx : RV w S β .e0 (a.eval x)) (ho : o.op = .assign x) {b : Blk} (hb : mget h d = some b) (e z : Nat) : KOK P E B o a w S β h (.own d) [(d, ⟨false, e, z, []⟩)] [d] := by
  obtain ⟨A, hA⟩ := rv_e0 hx
  intro K Q hK
  unfold Oper.wp
  have hr : (execOp a.eval o).run P w = .ok (.value (a.eval x)) w := by simp [execOp, ho]
  rw [hr, Oper.upon_value]
  have gj : GrK B [d] w S β w S (upd β d ⟨false, 0, 0, 0, 0⟩) := ⟨Blw.refl _ _, fun _ _ => rfl, fun _ h => h, fun _ h => .inl h, fun k y hk h1 => by rw [upd_ne β _ (by simpa using hk)]; exact h1, fun k y _ hk h1 => by rwa [upd_ne β _ (by simpa using hk)] at h1⟩
  refine hK _ w S _ ?_ gj ⟨_, upd_self _ _ _, (fun h => by cases h), fun _ => ⟨A, hA⟩⟩
  refine ⟨inv.base, inv.lt, ?_, ?_, ?_, ?_, inv.glob⟩
  · intro k k' y y' h1 h2 r1 r2 ee
    by_cases e1 : k = d
    · subst e1; rw [upd_self] at h1; cases h1; cases r1
    · by_cases e2 : k' = d
      · subst e2; rw [upd_self] at h2; cases h2; cases r2
      · rw [upd_ne β _ e1] at h1; rw [upd_ne β _ e2] at h2; exact inv.inj k k' y y' h1 h2 r1 r2 ee
  · intro k y h1 r1
    by_cases e1 : k = d
    · subst e1; rw [upd_self] at h1; cases h1; cases r1
    · rw [upd_ne β _ e1] at h1; exact inv.new k y h1 r1
  · intro k y h1
    simp only [msets]
    by_cases e1 : k = d
    · subst e1
      rw [upd_self] at h1
      cases h1
      exact ⟨⟨false, e, z, []⟩, by rw [mget_mset, if_pos rfl], (fun hr => by cases hr), fun _ => ⟨rfl, rfl⟩⟩
    · rw [upd_ne β _ e1] at h1
      obtain ⟨b1, a1, a2, a3⟩ := inv.dom k y h1
      exact ⟨b1.kill [d], by rw [mget_mset, if_neg e1, mget_map, a1]; rfl, fun hr => (a2 hr).kill gj rfl, fun hr => kill_virt (a3 hr)⟩
  · intro k b1 h1
    simp only [msets] at h1
    rw [mget_mset] at h1
    by_cases e1 : k = d
    · subst e1; exact ⟨_, upd_self _ _ _⟩
    · rw [if_neg e1, mget_map] at h1
      cases hk : mget h k with
      | none => rw [hk] at h1; cases h1
      | some b2 =>
        obtain ⟨y, hy⟩ := inv.cov k b2 hk
        exact ⟨y, by rw [upd_ne β _ e1]; exact hy⟩
theorem stepN_sound (ok : EnvOK P E) (rel : Rel E B N w0 S0 β0 s a w S β) (hd : ∀ d, o.dst = some d → d < N) {ops : Array Oper} (hdo : ∀ j d, dstOf ops.toList j = some d → d < N) {wr : Option (List Nat × List Nat)} (hn : (stepN E ops.toList s o).val = some (s', wr)) : OpOK P E B N w0 S0 β0 ops o a w s' := by
  unfold stepN at hn
  split at hn
  · rename_i p hp
    unfold renewOf at hp
    split at hp
    · rename_i hgu
      split at hp
      · rename_i x ho
        split at hp
        · rename_i h0
          split at hp
          · rename_i d hdst
            split at hp
            · split at hp
              · rename_i b hb
                split at hp
                · cases hp
                · split at hp
                  · rename_i ti hti
                    simp only [Option.some.injEq] at hp
                    subst hp
                    have hx := rel.args (g := none) (fun d want e => by cases e) (E := E) x
                    have he : ρOf E none s.t x = .e0 := by cases hh : ρOf E none s.t x <;> rw [hh] at h0 <;> first | rfl | (simp [isE0] at h0)
                    rw [he] at hx
                    intro K Q hK
                    rw [if_pos (by simp [Region.wanted, hgu])]
                    exact kfin_sound rel hd (renew_sound rel.inv hx ho hb _ _) hn K Q hK
                  · cases hp
              · cases hp
            · cases hp
          · cases hp
        · cases hp
      · cases hp
    · cases hp
  · obtain ⟨S1, β1, rel1⟩ := freezes_rel (storeFrz E s.t (mget s.h) o) rel
    exact stepG_sound ok rel1 hd hdo hn
theorem steps_sound (ok : EnvOK P E) {ops : Array Oper} (hd : DstOK N ops) {Q : Exit → Act → World → Prop} : ∀ (r : List Oper) (k : Nat), (∀ j, r[j]? = ops[k + j]?) → ∀ (s s' : St) (a : Act) (w : World), RelE E B N w0 S0 β0 s a w →
    (steps E ops.toList r s).val = some s' → (∀ a' w', RelE E B N w0 S0 β0 s' a' w' → Q .normal a' w') → wpOps P ops Q (List.range' k r.length) a w
  | [], k, hr, s, s', a, w, rel, hs, hQ => by
    rw [steps, T.ret_some] at hs
    subst hs
    exact hQ a w rel
  | o :: r, k, hr, s, s', a, w, ⟨S, β, rel⟩, hs, hQ => by
    rw [steps, T.bind_some] at hs
    obtain ⟨⟨s1, wr⟩, h1, h2⟩ := hs
    have hi : ops[k]? = some o := by have := hr 0; simpa using this.symm
    rw [List.length_cons, List.range'_succ, wpOps_cons]
    refine wpOp_of hi (stepN_sound ok rel (fun d hdd => hd o (by simpa using Array.mem_of_getElem? hi) d hdd) (fun j d hj => hd.at hj) h1) fun a' w' rel' => ?_
    exact steps_sound ok hd r (k + 1) (fun j => by have := hr (j + 1); rw [List.getElem?_cons_succ] at this; rw [this]; congr 1; omega) s1 s' a' w' rel' h2 hQ
theorem region_sound (ok : EnvOK P E) {ops : Array Oper} (hd : DstOK N ops) {id : Nat} {Q : Exit → Act → World → Prop} (rel : RelE E B N w0 S0 β0 s a w) (hs : (steps E ops.toList ops.toList s).val = some s') (hQ : ∀ a' w', RelE E B N w0 S0 β0 s' a' w' → Q .normal a' w') :
    (Code.region id ops false).wp P Q a w := by
  refine wp_region ?_
  rw [List.range_eq_range']
  have := steps_sound ok hd (Q := Q) ops.toList 0 (fun j => by simp) s s' a w rel hs hQ
  simpa using this

/-- What an operation looks at. -/
def keysOf (hg : Nat → Option Blk) (ρ : Operand → AV) (o : Oper) : List Nat := dstKeys o.dst ++ (match memOp o.op with
  | true => reach hg 1 (o.op.operands.toList.flatMap fun x => refs2 (ρ x))
  | false => [])
theorem view0_congr {hg hg' : Nat → Option Blk} {x : AV} (hk : ∀ k ∈ refsC x, hg k = hg' k) : view0 hg x = view0 hg' x := by
  cases x
  case own k => simp only [view0]; rw [hk k (by simp [refsC, refs0])]
  case win k lo n => simp only [view0]; rw [hk k (by simp [refsC, refs0])]
  case fn f cs => cases cs <;> rfl
  all_goals rfl
theorem reach_sub {hg : Nat → Option Blk} : ∀ (n : Nat) {ks ks' : List Nat}, (∀ k ∈ ks, k ∈ ks') → ∀ k ∈ reach hg n ks, k ∈ reach hg n ks'
  | 0, ks, ks', h, k, hk => h k hk
  | n + 1, ks, ks', h, k, hk => by
    refine reach_sub n (ks := addK ks (ks.flatMap (refsH hg))) (ks' := addK ks' (ks'.flatMap (refsH hg))) (fun j hj => ?_) k hk
    rcases mem_addK.1 hj with hj | hj
    · exact mem_addK.2 (.inl (h j hj))
    · obtain ⟨i, hi, hj⟩ := List.mem_flatMap.1 hj
      exact mem_addK.2 (.inr (List.mem_flatMap.2 ⟨i, h i hi, hj⟩))
theorem viewP_congr {hg hg' : Nat → Option Blk} {x : AV} (hk : ∀ k ∈ reach hg 1 (refs0 x), hg k = hg' k) : viewP hg x = viewP hg' x := by
  cases x
  case ptr k i off =>
    have e := hk k (mem_reach 1 (by simp [refs0]))
    simp only [viewP]
    rw [← e]
    cases hb : hg k with
    | none => rfl
    | some b =>
      simp only []
      cases hbx : b.box with
      | false => rfl
      | true =>
        simp only []
        cases hr : b.rows[i]? with
        | none => rfl
        | some row =>
          simp only []
          congr 1
          refine List.map_congr_left fun y hy => view0_congr fun j hj => hk j ?_
          refine mem_reach_succ 0 (k := k) (b := b) (by simp [reach, refs0]) hb ?_
          unfold blkRefs
          rw [hbx]
          simp only [List.mem_flatMap]
          exact ⟨row, List.mem_of_getElem? hr, y, hy, refsC_sub hj⟩
  case own k => exact view0_congr (x := .own k) fun j hj => hk j (mem_reach 1 hj)
  case win k lo n => exact view0_congr (x := .win k lo n) fun j hj => hk j (mem_reach 1 hj)
  case fn f cs => cases cs <;> rfl
  all_goals rfl
theorem viewC_congr {hg hg' : Nat → Option Blk} {x : AV} (hk : ∀ k ∈ reach hg 1 (refsC x), hg k = hg' k) : viewC hg x = viewC hg' x := by
  by_cases hn : ∃ f cs, x = .fn f cs
  · obtain ⟨f, cs, rfl⟩ := hn
    simp only [viewC]
    congr 1
    exact List.map_congr_left fun y hy => viewP_congr fun k hkk => hk k (reach_sub 1 (fun j hj => by simp only [refsC, List.mem_flatMap]; exact ⟨y, hy, hj⟩) k hkk)
  · have hn' : ∀ f cs, x ≠ .fn f cs := fun f cs e => hn ⟨f, cs, e⟩
    have e : ∀ hg, viewC hg x = viewP hg x := fun hg => by cases x <;> first | rfl | exact absurd rfl (hn' _ _)
    rw [e, e]
    rw [refsC_eq hn'] at hk
    exact viewP_congr hk
theorem view1_congr {hg hg' : Nat → Option Blk} {x : AV} (hk : ∀ k ∈ reach hg 1 (refs1 x), hg k = hg' k) : view1 hg x = view1 hg' x := by
  by_cases hn : ∃ cs, x = .agg cs
  · obtain ⟨cs, rfl⟩ := hn
    simp only [view1]
    congr 1
    exact List.map_congr_left fun y hy => viewC_congr fun k hkk => hk k (reach_sub 1 (fun j hj => by simp only [refs1, List.mem_flatMap]; exact ⟨y, hy, hj⟩) k hkk)
  · have hn' : ∀ cs, x ≠ .agg cs := fun cs e => hn ⟨cs, e⟩
    have e : ∀ hg, view1 hg x = viewC hg x := fun hg => by cases x <;> first | rfl | exact absurd rfl (hn' _)
    rw [e, e]
    rw [refs1_eq hn'] at hk
    exact viewC_congr hk
theorem view2_congr {hg hg' : Nat → Option Blk} {x : AV} (hk : ∀ k ∈ reach hg 1 (refs2 x), hg k = hg' k) : view2 hg x = view2 hg' x := by
  by_cases hn : ∃ cs, x = .tup cs
  · obtain ⟨cs, rfl⟩ := hn
    simp only [view2]
    congr 1
    exact List.map_congr_left fun y hy => view1_congr fun k hkk => hk k (reach_sub 1 (fun j hj => by simp only [refs2, List.mem_flatMap]; exact ⟨y, hy, hj⟩) k hkk)
  · have hn' : ∀ cs, x ≠ .tup cs := fun cs e => hn ⟨cs, e⟩
    by_cases hu : ∃ j b want y, x = .gd j b want y
    · obtain ⟨j, b, want, y, rfl⟩ := hu
      rfl
    · have hu' : ∀ j b w y, x ≠ .gd j b w y := fun j b w y e => hu ⟨j, b, w, y, e⟩
      have e : ∀ hg, view2 hg x = view1 hg x := fun hg => by cases x <;> first | rfl | exact absurd rfl (hn' _)
      rw [e, e]
      rw [refs2_eq hn' hu'] at hk
      exact view1_congr hk
theorem made_congr {hg hg' : Nat → Option Blk} {dst : Option Tmp} (hk : ∀ d, dst = some d → hg d = hg' d) (f : Nat → AV) (b : Blk) : made hg dst f b = made hg' dst f b := by
  unfold made fresh
  cases dst with
  | none => rfl
  | some d => simp only [hk d rfl]
theorem rowsOf_congr {hg hg' : Nat → Option Blk} {x : AV} (hk : ∀ k ∈ refs2 x, hg k = hg' k) : rowsOf hg x = rowsOf hg' x := by
  cases x
  case own k => simp only [rowsOf]; rw [hk k (by simp [refs2, refs1, refsC, refs0])]
  all_goals rfl
theorem freshAll_congr {hg hg' : Nat → Option Blk} {d : Nat} (hk : ∀ k ∈ callKeys d, hg k = hg' k) : ∀ H : Heap, freshAll hg d H = freshAll hg' d H
  | [] => rfl
  | p :: r => by
    simp only [freshAll]
    cases h4 : Nat.blt p.1 4
    · rfl
    · have : p.1 < 4 := by simpa using h4
      have : hg (renK d p.1) = hg' (renK d p.1) := hk _ (by
        unfold callKeys
        rcases p with ⟨q, x⟩
        simp only at this ⊢
        rcases q with _ | _ | _ | _ | q <;> simp
        omega)
      simp only [this, freshAll_congr hk r]
theorem eff_congr {ρ ρ' : Operand → AV} {hg hg' : Nat → Option Blk} (hρ : ∀ x ∈ o.op.operands, ρ x = ρ' x) (hk : ∀ k ∈ keysOf hg ρ o, hg k = hg' k) (hsh : shOp o.op = true → ∀ x ∈ o.op.operands, ∀ k ∈ refs2 (ρ x), (hg k).map Blk.shape = (hg' k).map Blk.shape) : eff E ρ hg o = eff E ρ' hg' o := by
  have hdst : ∀ d, o.dst = some d → hg d = hg' d := fun d hd => hk d (by simp [keysOf, dstKeys, hd])
  have hcall : ∀ d, o.dst = some d → ∀ k ∈ callKeys d, hg k = hg' k := fun d hd k hkk => hk k (by simp [keysOf, dstKeys, hd, hkk])
  have hop : memOp o.op = true → ∀ x ∈ o.op.operands, ∀ k ∈ refs2 (ρ x), hg k = hg' k := fun hm x hx k hkk => hk k (by
    simp only [keysOf, List.mem_append, hm]; exact .inr (mem_reach 1 (List.mem_flatMap.2 ⟨x, by simpa using hx, hkk⟩)))
  have hop1 : memOp o.op = true → ∀ x ∈ o.op.operands, ∀ k ∈ reach hg 1 (refs2 (ρ x)), hg k = hg' k := fun hm x hx k hkk => hk k (by
    simp only [keysOf, List.mem_append, hm]; exact .inr (reach_sub 1 (fun j hj => List.mem_flatMap.2 ⟨x, by simpa using hx, hj⟩) k hkk))
  unfold eff
  cases ho : o.op <;> rw [ho] at hρ hop hop1 hsh <;> simp only [] <;> first | rfl | skip
  case move x => rw [hρ x (by simp [Op.operands])]
  case assign x =>
    have hf : fresh hg o.dst = fresh hg' o.dst := by
      unfold fresh
      cases hd : o.dst with
      | none => rfl
      | some d => simp only []; rw [hdst d hd]
    rw [hρ x (by simp [Op.operands])]; simp only [made_congr hdst, hf]
  case pick c x y =>
    rw [hρ x (by simp [Op.operands]), hρ y (by simp [Op.operands])]
    cases c <;> first | rfl | skip
    rename_i c
    simp only [hρ (.tmp c) (by simp [Op.operands])]
  case binOp op t x y t2 => rw [hρ x (by simp [Op.operands]), hρ y (by simp [Op.operands])]
  case unOp op t x => rw [hρ x (by simp [Op.operands])]
  case convert t0 t x => rw [hρ x (by simp [Op.operands])]
  case extract x i => rw [hρ x (by simp [Op.operands])]
  case field s x f => rw [hρ x (by simp [Op.operands])]
  case nilCheck x => rw [hρ x (by simp [Op.operands])]
  case fieldAddr s x f => rw [hρ x (by simp [Op.operands])]
  case index t x i => rw [hρ x (by simp [Op.operands]), hρ i (by simp [Op.operands])]
  case alloc t => simp only [made_congr hdst]
  case box t x => rw [hρ x (by simp [Op.operands])]; simp only [made_congr hdst]
  case build t parts =>
    have : ∀ (ti : TI) (l : List (Nat × Operand)) (cs : List AV), (∀ p ∈ l, ρ p.2 = ρ' p.2) → fillS ti ρ l cs = fillS ti ρ' l cs := by
      intro ti l
      induction l with
      | nil => exact fun cs _ => rfl
      | cons p l ih =>
        intro cs hl
        obtain ⟨f, x⟩ := p
        simp only [fillS, hl (f, x) (by simp), ih _ fun q hq => hl q (by simp [hq])]
    have hl : ∀ p ∈ parts.toList, ρ p.2 = ρ' p.2 := fun p hp => hρ p.2 (by simp [Op.operands]; exact ⟨p.1, by simpa using hp⟩)
    simp only [this _ parts.toList _ hl]
  case buildSlice t n parts =>
    have hl : ∀ p ∈ parts.toList, ρ p.2 = ρ' p.2 := fun p hp => hρ p.2 (by simp [Op.operands]; exact ⟨p.1, by simpa using hp⟩)
    have e1 : parts.toList.all (fun p => solid (ρ p.2)) = parts.toList.all (fun p => solid (ρ' p.2)) := by
      rw [Bool.eq_iff_iff, List.all_eq_true, List.all_eq_true]
      exact ⟨fun hh p hp => by rw [← hl p hp]; exact hh p hp, fun hh p hp => by rw [hl p hp]; exact hh p hp⟩
    have e2 : (parts.toList.map fun p => cellsOf (ρ p.2)) = parts.toList.map fun p => cellsOf (ρ' p.2) := List.map_congr_left fun p hp => by rw [hl p hp]
    have e3 : (parts.toList.map fun p => (cellsOf (ρ p.2)).map pure0) = parts.toList.map fun p => (cellsOf (ρ' p.2)).map pure0 := List.map_congr_left fun p hp => by rw [hl p hp]
    simp only [e1, e2, e3, made_congr hdst]
  case makeSlice t x y =>
    rw [hρ x (by simp [Op.operands]), hρ y (by simp [Op.operands])]
    simp only [makeK, made_congr hdst]
  case load t x =>
    have e := hop rfl x (by simp [Op.operands])
    rw [hρ x (by simp [Op.operands])] at e ⊢
    have : ∀ ti, loadK E hg ti (ρ' x) = loadK E hg' ti (ρ' x) := fun ti => by
      cases hx : ρ' x <;> simp only [loadK]
      rw [hx] at e
      rw [e _ (by simp [refs2, refs1, refsC, refs0])]
    simp only [this]
  case store t x y =>
    have e := hop rfl x (by simp [Op.operands])
    rw [hρ y (by simp [Op.operands])]
    rw [hρ x (by simp [Op.operands])] at e ⊢
    have : ∀ ti, storeK E hg ti (ρ' y) (ρ' x) = storeK E hg' ti (ρ' y) (ρ' x) := fun ti => by
      cases hx : ρ' x <;> simp only [storeK]
      rw [hx] at e
      rw [e _ (by simp [refs2, refs1, refsC, refs0])]
    simp only [this]
  case slice t x lo hi mx =>
    have ho : ∀ q : Option Operand, (∀ y, q = some y → ρ y = ρ' y) → optA ρ q = optA ρ' q := fun q hq => by cases q <;> simp [optA, hq]
    rw [hρ x (by simp [Op.operands]), ho lo fun y hy => hρ y (by simp [Op.operands, hy]), ho hi fun y hy => hρ y (by simp [Op.operands, hy]), ho mx fun y hy => hρ y (by simp [Op.operands, hy])]
    have e := hsh rfl x (by simp [Op.operands])
    rw [hρ x (by simp [Op.operands])] at e
    have wb : ∀ ti k, (hg k).map Blk.shape = (hg' k).map Blk.shape → winB hg ti k = winB hg' ti k := fun ti k e => by
      unfold winB
      cases h1 : hg k with
      | none =>
        cases h2 : hg' k with
        | none => rfl
        | some y => rw [h1, h2] at e; cases e
      | some y =>
        cases h2 : hg' k with
        | none => rw [h1, h2] at e; cases e
        | some z =>
          rw [h1, h2] at e
          simp only [Option.map_some, Option.some.injEq, Blk.shape, Prod.mk.injEq] at e
          obtain ⟨e1, e2, e3⟩ := e
          simp only [e1, e2, e3]
    have : ∀ ti l m, winK hg ti (ρ' x) l m = winK hg' ti (ρ' x) l m := fun ti l m => by
      unfold winK
      cases hx : ρ' x <;> simp only []
      all_goals
        rw [hx] at e
        rw [wb ti _ (e _ (by simp [refs2, refs1, refsC, refs0]))]
    simp only [this]
  case indexAddr t x i =>
    have e := hsh rfl x (by simp [Op.operands])
    rw [hρ i (by simp [Op.operands])]
    rw [hρ x (by simp [Op.operands])] at e ⊢
    have : ∀ ti, indexK E hg ti (ρ' x) (ρ' i) = indexK E hg' ti (ρ' x) (ρ' i) := fun ti => by
      unfold indexK
      have key : ∀ (b : Nat) (F : Bool → Nat → Nat → T AV), (hg b).map Blk.shape = (hg' b).map Blk.shape → (match hg b with | some y => F y.box y.sz y.rows.length | none => .fail) = (match hg' b with | some y => F y.box y.sz y.rows.length | none => .fail) := by
        intro b F e
        cases h1 : hg b with
        | none =>
          cases h2 : hg' b with
          | none => rfl
          | some y => rw [h1, h2] at e; cases e
        | some y =>
          cases h2 : hg' b with
          | none => rw [h1, h2] at e; cases e
          | some z =>
            rw [h1, h2] at e
            simp only [Option.map_some, Option.some.injEq, Blk.shape, Prod.mk.injEq] at e
            obtain ⟨e1, e2, e3⟩ := e
            simp only [e1, e2, e3]
      cases hx : ρ' x <;> simp only []
      case own b =>
        rw [hx] at e
        have e := e b (by simp [refs2, refs1, refsC, refs0])
        cases intOfA (ρ' i) with
        | none => rfl
        | some n =>
          simp only []
          congr 1
          funext j
          exact key b (fun bx sz ln => match !bx && Nat.beq sz ti.esize with | true => .ifB (decide (j < ln)) (.ret (.ptr b j 0)) .fail | false => .fail) e
      case win b lo n =>
        rw [hx] at e
        have e := e b (by simp [refs2, refs1, refsC, refs0])
        cases intOfA (ρ' i) with
        | none => rfl
        | some m =>
          simp only []
          congr 1
          funext j
          exact key b (fun bx sz ln => match winOf bx sz ti.esize with | true => .ifB (decide (j < n)) (.ret (.ptr b (lo + j) 0)) .fail | false => .fail) e
    simp only [this]
  case makeFunc fn first captured =>
    have e : captured.toList.map ρ = captured.toList.map ρ' := List.map_congr_left fun x hx => hρ x (by simp only [Op.operands, Array.mem_append]; exact .inr (by simpa using hx))
    simp only [e]
  case call c =>
    have harg : ∀ x ∈ c.args.toList, ρ x = ρ' x := fun x hx => hρ x (by simp only [Op.operands, Call.operands, Array.mem_append]; exact .inr (by simpa using hx))
    have hargk : ∀ x ∈ c.args.toList, ∀ k ∈ refs2 (ρ x), hg k = hg' k := fun x hx => hop rfl x (by simp only [Op.operands, Call.operands, Array.mem_append]; exact .inr (by simpa using hx))
    cases hc : c.callee <;> simp only []
    case builtin b =>
      unfold builtinK
      cases b <;> simp only []
      case len =>
        split
        · rename_i x ty ha hts
          have hx : x ∈ c.args.toList := by rw [ha]; simp
          have e := hargk x hx
          rw [harg x hx] at e ⊢
          have : ∀ ti, lenK hg ti (ρ' x) = lenK hg' ti (ρ' x) := fun ti => by
            cases hxx : ρ' x
            case own j =>
              rw [hxx] at e
              simp only [lenK]
              rw [e _ (by simp [refs2, refs1, refsC, refs0])]
            case v y => cases y <;> rfl
            all_goals rfl
          simp only [this]
        · rfl
      case max =>
        split
        · rename_i x y ha
          rw [harg x (by rw [ha]; simp), harg y (by rw [ha]; simp)]
        · rfl
      case min =>
        split
        · rename_i x y ha
          rw [harg x (by rw [ha]; simp), harg y (by rw [ha]; simp)]
        · rfl
      case append =>
        split
        · rename_i x y ty ty' ha hts
          have hy : y ∈ c.args.toList := by rw [ha]; simp
          have e := hargk y hy
          rw [harg y hy] at e ⊢
          rw [harg x (by rw [ha]; simp)]
          simp only [app0, rowsOf_congr e, made_congr hdst]
        · rfl
      case clear =>
        split
        · rename_i x ty ha hts
          have hx : x ∈ c.args.toList := by rw [ha]; simp
          have e := hargk x hx
          rw [harg x hx] at e ⊢
          have : ∀ ti, clearK hg ti (ρ' x) = clearK hg' ti (ρ' x) := fun ti => by
            cases hxx : ρ' x
            case win j lo n =>
              rw [hxx] at e
              simp only [clearK]
              rw [e _ (by simp [refs2, refs1, refsC, refs0])]
            all_goals rfl
          simp only [this]
        · rfl
    case value f =>
      have hf : ρ f = ρ' f := hρ f (by simp [Op.operands, Call.operands, hc])
      have hfk := hop1 rfl f (by simp [Op.operands, Call.operands, hc])
      rw [hf] at hfk ⊢
      cases hff : ρ' f <;> simp only []
      rename_i fid cap
      rw [hff] at hfk
      have e0 : c.args.toList.map ρ = c.args.toList.map ρ' := List.map_congr_left harg
      cases hcap : cap.all capOK
      · rfl
      have e1 : (c.args.toList.map ρ' ++ cap).map (view2 hg) = (c.args.toList.map ρ' ++ cap).map (view2 hg') := by
        refine List.map_congr_left fun y hy => view2_congr fun k hkk => ?_
        rcases List.mem_append.1 hy with hy | hy
        · obtain ⟨x, hx, rfl⟩ := List.mem_map.1 hy
          rw [← harg x hx] at hkk
          exact hop1 rfl x (by simp only [Op.operands, Call.operands, Array.mem_append]; exact .inr (by simpa using hx)) k hkk
        · refine hfk k (reach_sub 1 (fun j hj => ?_) k hkk)
          simp only [refs2, refs1, refsC, List.mem_flatMap]
          refine ⟨y, hy, ?_⟩
          have := List.all_eq_true.1 hcap y hy
          cases y <;> first | exact hj | (simp [capOK] at this)
      simp only [e0]
      unfold callK
      rw [e1]
      cases hdd : o.dst with
      | none => rfl
      | some d => simp only [freshAll_congr (hcall d hdd)]
end

end

section

variable {P : Program} {E : Env}
section
variable {B : Nat → Prop} {N : Nat} {β0 : Nat → Option BI} {o : Oper} {a : Act} {w w' w0 : World} {S S' S0 : Nat → Prop} {β β' : Nat → Option BI} {h : Heap} {av : AV} {v : Value} {t : Tmps} {s s' s2 : St} {g : Option (Nat × Bool)} {ops : List Oper}
abbrev rdOf (ops : List Oper) (s : St) (o : Oper) : List Nat := rdN 2 ops s o
structure Agree (ops : List Oper) (o : Oper) (s s2 : St) : Prop where
  t : ∀ n ∈ tmpsOf ops o, getT s2.t n = getT s.t n
  h : ∀ k ∈ rdOf ops s o, mget s2.h k = mget s.h k
  sh : ∀ k ∈ shOf ops s o, (mget s2.h k).map Blk.shape = (mget s.h k).map Blk.shape
theorem tmp_mem {n : Nat} (hx : Operand.tmp n ∈ o.op.operands) : n ∈ tmpsOf ops o := by
  unfold tmpsOf
  rw [List.mem_append]
  refine .inl ?_
  rw [List.mem_flatMap]
  exact ⟨.tmp n, by simpa using hx, by simp⟩
theorem ev_refs {x : Operand} (hx : ∀ n, x ≠ .tmp n) : refs2 (ev E t x) = [] := by
  cases x
  case tmp n => exact absurd rfl (hx n)
  case const v =>
    simp only [ev]
    split
    · unfold ofConst
      split
      · rfl
      · rename_i cs
        simp only [refs2, refs1]
        rw [List.flatMap_eq_nil_iff]
        intro y hy
        obtain ⟨u, _, rfl⟩ := List.mem_map.1 hy
        rfl
      · rfl
    · rfl
  case global gl => simp only [ev]; split <;> rfl
  case func f => rfl
theorem ung_refs (x : AV) : ∀ k ∈ refs2 (ung g x), k ∈ refs2 x := by
  intro k hk
  unfold ung at hk
  split at hk
  · rename_i i b wt y
    split at hk
    · split at hk
      · unfold flatOnly at hk
        split at hk
        · simp [refs2, refs1, refsC, refs0] at hk
        · simp [refs2, refs1, refsC, refs0] at hk
        · rename_i h1 h2
          rw [refs2_eq h2 h1] at hk
          exact hk
      · exact hk
    · exact hk
  · exact hk
theorem ρ_agree (ag : Agree ops o s s2) : ∀ x ∈ o.op.operands, ρOf E g s.t x = ρOf E g s2.t x := by
  intro x hx
  unfold ρOf
  cases x with
  | tmp n => simp only [ev]; rw [ag.t n (tmp_mem hx)]
  | const v => rfl
  | global gl => rfl
  | func f => rfl
theorem mem_reach_up0 {hg : Nat → Option Blk} : ∀ (n : Nat) {ks : List Nat} {k : Nat}, k ∈ reach hg n ks → k ∈ reach hg (n + 1) ks
  | 0, ks, k, hk => mem_addK.2 (.inl hk)
  | n + 1, ks, k, hk => mem_reach_up0 n hk
theorem refs_tmps {x : Operand} (hx : x ∈ o.op.operands) {k : Nat} (hk : k ∈ refs2 (ρOf E g s.t x)) : k ∈ tmpRefs ops s o := by
  have hk := ung_refs _ k hk
  unfold tmpRefs
  rw [List.mem_flatMap]
  by_cases hn : ∃ n, x = .tmp n
  · obtain ⟨n, rfl⟩ := hn
    exact ⟨n, tmp_mem hx, hk⟩
  · rw [ev_refs fun n e => hn ⟨n, e⟩] at hk
    cases hk
theorem keys_rd : ∀ k ∈ keysOf (mget s.h) (ρOf E g s.t) o, k ∈ rdOf ops s o := by
  intro k hk
  simp only [keysOf, rdOf, rdN, List.mem_append] at hk ⊢
  rcases hk with hk | hk
  · exact .inl hk
  · refine .inr ?_
    cases hm : memOp o.op with
    | false => simp only [hm] at hk; cases hk
    | true =>
      simp only [hm] at hk ⊢
      have h1 := mem_reach_up0 1 hk
      refine reach_sub 2 (fun j hj => ?_) k h1
      rw [List.mem_flatMap] at hj
      obtain ⟨x, hx, hj⟩ := hj
      exact refs_tmps (by simpa using hx) hj
theorem eff_agree (ag : Agree ops o s s2) : eff E (ρOf E g s.t) (mget s.h) o = eff E (ρOf E g s2.t) (mget s2.h) o :=
  eff_congr (ρ_agree ag) (fun k hk => (ag.h k (keys_rd k hk)).symm) fun hs x hx k hk => (ag.sh k (by unfold shOf; rw [hs]; exact refs_tmps hx hk)).symm
theorem flatMap_same {α γ : Type} {f g : α → List γ} {l : List α} (hh : ∀ x ∈ l, f x = g x) : l.flatMap f = l.flatMap g := by
  rw [List.flatMap_def, List.flatMap_def, List.map_congr_left hh]
theorem frz_congr {ρ ρ' : Operand → AV} (hρ : ∀ x ∈ o.op.operands, ρ x = ρ' x) : frz E ρ o.dst o.op = frz E ρ' o.dst o.op := by
  cases ho : o.op <;> rw [ho] at hρ
  case buildSlice t n parts =>
    have hl : ∀ p ∈ parts.toList, ρ p.2 = ρ' p.2 := fun p hp => hρ p.2 (by simp [Op.operands]; exact ⟨p.1, by simpa using hp⟩)
    have e2 : (parts.toList.map fun p => cellsOf (ρ p.2)) = parts.toList.map fun p => cellsOf (ρ' p.2) := List.map_congr_left fun p hp => by rw [hl p hp]
    have e3 : (parts.toList.flatMap fun p => refs2 (ρ p.2)) = parts.toList.flatMap fun p => refs2 (ρ' p.2) := flatMap_same fun p hp => by rw [hl p hp]
    simp only [frz, e2, e3]
  case slice t x lo hi mx =>
    cases mx
    · simp only [frz]; rw [hρ x (by simp [Op.operands])]
    · rfl
  case call c =>
    obtain ⟨callee, args, ts⟩ := c
    cases callee
    case value f =>
      simp only [frz]
      rw [hρ f (by simp [Op.operands, Call.operands])]
      have e : args.toList.flatMap (fun x => refs2 (ρ x)) = args.toList.flatMap fun x => refs2 (ρ' x) := flatMap_same fun x hx => by rw [hρ x (by simp only [Op.operands, Call.operands, Array.mem_append]; exact .inr (by simpa using hx))]
      rw [e]
    all_goals rfl
  all_goals rfl
theorem frz_agree (ag : Agree ops o s s2) : frz E (ρOf E g s.t) o.dst o.op = frz E (ρOf E g s2.t) o.dst o.op := frz_congr (ρ_agree ag)
theorem inHeap_congr {hg hg' : Nat → Option Blk} {ks : List Nat} : ∀ {l : List Nat} {acc : Heap}, (∀ k ∈ l, hg' k = hg k) → inHeap hg' ks l acc = inHeap hg ks l acc
  | [], acc, _ => rfl
  | k :: l, acc, h => by
    simp only [inHeap]
    rw [h k (by simp)]
    split
    · exact inHeap_congr fun j hj => h j (by simp [hj])
    · exact inHeap_congr fun j hj => h j (by simp [hj])
theorem all_congr {α : Type} {f g : α → Bool} : ∀ {l : List α}, (∀ x ∈ l, f x = g x) → l.all f = l.all g
  | [], _ => rfl
  | x :: l, h => by simp only [List.all_cons]; rw [h x (by simp), all_congr fun y hy => h y (by simp [hy])]
theorem callH_congr {hg hg' : Nat → Option Blk} {dst : Option Tmp} {f : FuncId} {args : List AV} (h1 : ∀ k ∈ reach hg 2 (addK [] (args.flatMap refs2)), hg' k = hg k) (h2 : ∀ d, dst = some d → ∀ k ∈ callKeys d, hg' k = hg k) : callH E hg' dst f args = callH E hg dst f args := by
  unfold callH
  rw [reach_congr 2 h1]
  generalize reach hg 2 (addK [] (args.flatMap refs2)) = ks at h1
  unfold callH1
  have e1 : closedK hg' ks = closedK hg ks := all_congr fun k hk => by rw [h1 k hk]
  have e2 : inHeap hg' ks ks [] = inHeap hg ks ks [] := inHeap_congr h1
  rw [e1, e2]
  have e3 : ∀ d nw p, (nw = true → dst = some d) → callOut E hg' ks d nw p = callOut E hg ks d nw p := by
    intro d nw p hd
    unfold callOut
    have : outFits E hg' ks d nw p.2.1 p.2.2 = outFits E hg ks d nw p.2.1 p.2.2 := by
      unfold outFits
      congr 3
      congr 1
      refine all_congr fun q hq => ?_
      split
      · rfl
      · cases nw with
        | false => rfl
        | true =>
          simp only [Bool.true_and]
          cases h4 : Nat.blt q.1 4 with
          | false => rfl
          | true =>
            have h4 : q.1 < 4 := by simpa using h4
            rw [h2 d (hd rfl) (renK d q.1) (by
              unfold callKeys
              rcases q with ⟨q, x⟩
              simp only at h4 ⊢
              rcases q with _ | _ | _ | _ | q <;> simp
              omega)]
    rw [this]
  cases dst with
  | none => simp only [e3 0 false _ (fun h => by cases h)]
  | some d => simp only [e3 d true _ (fun _ => rfl)]
theorem hcall_congr {ρ ρ' : Operand → AV} (hρ : ∀ x ∈ o.op.operands, ρ x = ρ' x) : hcallOf E ρ o.op = hcallOf E ρ' o.op := by
  cases ho : o.op <;> rw [ho] at hρ <;> try rfl
  rename_i c
  obtain ⟨callee, args, ts⟩ := c
  cases callee
  case value f =>
    simp only [hcallOf]
    rw [hρ f (by simp [Op.operands, Call.operands])]
    have e : args.toList.map ρ = args.toList.map ρ' := List.map_congr_left fun x hx => hρ x (by simp only [Op.operands, Call.operands, Array.mem_append]; exact .inr (by simpa using hx))
    rw [e]
  all_goals rfl
theorem hcall_agree (ag : Agree ops o s s2) {f : FuncId} {args : List AV} (hc : hcallOf E (ρOf E g s.t) o.op = some (f, args)) : callH E (mget s2.h) o.dst f args = callH E (mget s.h) o.dst f args := by
  obtain ⟨c, fo, caps, c1, c2, c3, c4⟩ := hcallOf_some hc
  refine callH_congr (fun k hk => ag.h k ?_) fun d hd k hk => ag.h k ?_
  · simp only [rdOf, rdN, List.mem_append, show memOp o.op = true by rw [c1]; rfl]
    refine .inr (reach_sub 2 (fun j hj => ?_) k hk)
    rcases mem_addK.1 hj with hj | hj
    · simp at hj
    · obtain ⟨x, hx, hj⟩ := List.mem_flatMap.1 hj
      rw [c4, List.mem_append] at hx
      rcases hx with hx | hx
      · obtain ⟨y, hy, rfl⟩ := List.mem_map.1 hx
        exact refs_tmps (E := E) (g := g) (x := y) (by rw [c1]; simp only [Op.operands, Call.operands, Array.mem_append]; exact .inr (by simpa using hy)) hj
      · refine refs_tmps (E := E) (g := g) (x := fo) (by rw [c1]; obtain ⟨ce, ca, ct⟩ := c; simp only at c2; subst c2; simp [Op.operands, Call.operands]) ?_
        rw [c3]
        show j ∈ caps.flatMap refs0
        rw [List.mem_flatMap]
        have hcp : caps.all capOK = true := by
          unfold hcallOf at hc
          rw [c1] at hc
          simp only [c2, c3] at hc
          split at hc
          · rename_i hh
            simp only [Bool.and_eq_true] at hh
            exact hh.2
          · cases hc
        have := List.all_eq_true.1 hcp x hx
        refine ⟨x, hx, ?_⟩
        cases x <;> first | exact hj | (simp [capOK] at this)
  · simp only [rdOf, rdN, hd, List.mem_append]
    exact .inl (List.mem_cons_of_mem _ hk)
theorem appOwn_agree (ag : Agree ops o s s2) (hm : memOp o.op = true) {x y : Operand} {ty : TypeId} {j : Nat} (hx : x ∈ o.op.operands) (hy : y ∈ o.op.operands) (hj : ownOf (ρOf E g s.t x) = some j) : appOwn E (mget s2.h) ty j (ρOf E g s2.t y) = appOwn E (mget s.h) ty j (ρOf E g s.t y) := by
  have e1 := ρ_agree (E := E) (g := g) ag y hy
  have hj' : ρOf E g s.t x = .own j := by unfold ownOf at hj; split at hj <;> first | (cases hj; assumption) | (cases hj)
  have e2 : mget s2.h j = mget s.h j := ag.h j (by
    simp only [rdOf, rdN, List.mem_append, hm]
    exact .inr (mem_reach 2 (refs_tmps (E := E) (g := g) hx (by rw [hj']; simp [refs2, refs1, refsC, refs0]))))
  have e3 : rowsOf (mget s2.h) (ρOf E g s.t y) = rowsOf (mget s.h) (ρOf E g s.t y) := rowsOf_congr fun k hk => ag.h k (by
    simp only [rdOf, rdN, List.mem_append, hm]
    exact .inr (mem_reach 2 (refs_tmps (E := E) (g := g) hy hk)))
  unfold appOwn
  rw [← e1, e2, e3]
theorem killA_nil (x : AV) : killA [] x = x := by
  unfold killA
  have : ((refs2 x).any fun k => List.elem k []) = false := by rw [List.any_eq_false]; intro k _; simp
  rw [this]
theorem blk_kill_nil (b : Blk) : b.kill [] = b := by
  unfold Blk.kill
  split
  · obtain ⟨bx, ty, sz, rows⟩ := b
    have : (rows.map fun r => r.map (killA [])) = rows := by
      have e : (killA []) = id := funext killA_nil
      rw [e]
      simp
    simp only [this]
  · rfl
theorem kill_nil (s : St) : s.kill [] = s := by
  obtain ⟨t, h⟩ := s
  unfold St.kill
  have e1 : (t.map fun p => (p.1, killA [] p.2)) = t := by
    have : (fun p : Nat × AV => (p.1, killA [] p.2)) = id := funext fun p => by rw [killA_nil]; rfl
    rw [this]; simp
  have e2 : (h.map fun p => (p.1, p.2.kill [])) = h := by
    have : (fun p : Nat × Blk => (p.1, p.2.kill [])) = id := funext fun p => by rw [blk_kill_nil]; rfl
    rw [this]; simp
  simp only [e1, e2]
theorem putK_nil (s : St) (dst : Option Tmp) (av : AV) (ws : Heap) : putK s dst av ws [] = ⟨setD s.t dst av, msets s.h ws⟩ := by
  unfold putK; rw [kill_nil]
/-- A step is known by what it reads. -/
def Framed (ops : List Oper) (s : St) (o : Oper) (s' : St) (wk : List Nat × List Nat) (st : St → T (St × Option (List Nat × List Nat))) : Prop :=
  ∃ av ws ks, s' = putK s o.dst av ws ks ∧ wk = (ws.map (·.1), ks) ∧ (∀ j b want x, av = .gd j b want x → j ∈ tmpsOf ops o) ∧ ∀ s2, Agree ops o s s2 → (st s2).val = some (putK s2 o.dst av ws ks, some wk)
theorem norm_frame {wk : List Nat} (hn : (norm E g s o).val = some (s', wk)) : ∃ av ws, s' = putK s o.dst av ws [] ∧ wk = ws.map (·.1) ∧ (∀ j b want x, av ≠ .gd j b want x) ∧ ∀ s2, Agree ops o s s2 → (norm E g s2 o).val = some (putK s2 o.dst av ws [], wk) := by
  unfold norm at hn
  rw [T.bind_some] at hn
  obtain ⟨p, hp, hn⟩ := hn
  rw [T.ret_some] at hn
  cases hn
  refine ⟨noGd p.1, p.2, (putK_nil _ _ _ _).symm, rfl, (fun j b want x hx => noGd_ne hx), fun s2 ag => ?_⟩
  unfold norm
  rw [T.bind_some]
  exact ⟨p, by rw [← eff_agree ag]; exact hp, by rw [putK_nil]; rfl⟩
theorem kfin_frame {p : AV × Heap × List Nat} {wk : List Nat × List Nat} (hn : (kfin E s o.dst p).val = some (s', some wk)) : s' = putK s o.dst (noGd p.1) p.2.1 p.2.2 ∧ wk = (p.2.1.map (·.1), p.2.2) ∧ ∀ s2 : St, (kfin E s2 o.dst p).val = some (putK s2 o.dst (noGd p.1) p.2.1 p.2.2, some wk) := by
  unfold kfin at hn
  split at hn
  · rename_i hm
    rw [T.ret_some] at hn
    cases hn
    refine ⟨rfl, rfl, fun s2 => ?_⟩
    unfold kfin
    rw [hm]
    rfl
  · rw [T.fail_some] at hn; exact hn.elim
theorem step1_frame {wk : List Nat × List Nat} (hn : (step1 E g s o).val = some (s', some wk)) : Framed ops s o s' wk fun s2 => step1 E g s2 o := by
  have nrm : ((norm E g s o).bind wrS).val = some (s', some wk) → Framed ops s o s' wk fun s2 => (norm E g s2 o).bind wrS := by
    intro hq
    rw [T.bind_some] at hq
    obtain ⟨⟨s1, ws⟩, h1, h2⟩ := hq
    rw [show wrS (s1, ws) = .ret (s1, some (ws, [])) from rfl, T.ret_some] at h2
    cases h2
    obtain ⟨av, ws', e1, e2, e0, e3⟩ := norm_frame (ops := ops) h1
    exact ⟨av, ws', [], e1, by rw [e2], fun j b want x hx => absurd hx (e0 j b want x), fun s2 ag => by rw [T.bind_some]; exact ⟨_, e3 s2 ag, rfl⟩⟩
  unfold step1 at hn
  split at hn
  · rename_i x y ty hi
    have ho := isApp_some hi
    have hx : x ∈ o.op.operands := by rw [ho]; simp [Op.operands, Call.operands]
    have hy : y ∈ o.op.operands := by rw [ho]; simp [Op.operands, Call.operands]
    split at hn
    · rename_i j hj
      rw [T.bind_some] at hn
      obtain ⟨p, h1, h2⟩ := hn
      obtain ⟨k1, k2, k3⟩ := kfin_frame h2
      refine ⟨noGd p.1, p.2.1, p.2.2, k1, k2, (fun j b want x hx => absurd hx noGd_ne), fun s2 ag => ?_⟩
      show (step1 E g s2 o).val = _
      unfold step1
      simp only [hi]
      rw [← ρ_agree ag x hx]
      simp only [hj]
      rw [T.bind_some]
      exact ⟨p, by rw [appOwn_agree ag (by rw [ho]; rfl) hx hy hj]; exact h1, k3 s2⟩
    · rename_i hno
      obtain ⟨av, ws, ks, e1, e2, e0, e3⟩ := nrm hn
      refine ⟨av, ws, ks, e1, e2, e0, fun s2 ag => ?_⟩
      show (step1 E g s2 o).val = _
      unfold step1
      simp only [hi]
      rw [← ρ_agree ag x hx]
      simp only [hno]
      exact e3 s2 ag
  · rename_i hi
    split at hn
    · rename_i f args hc
      rw [T.bind_some] at hn
      obtain ⟨p, h1, h2⟩ := hn
      obtain ⟨k1, k2, k3⟩ := kfin_frame h2
      refine ⟨noGd p.1, p.2.1, p.2.2, k1, k2, (fun j b want x hx => absurd hx noGd_ne), fun s2 ag => ?_⟩
      show (step1 E g s2 o).val = _
      unfold step1
      simp only [hi]
      rw [← hcall_congr (ρ_agree ag)]
      simp only [hc]
      rw [T.bind_some]
      exact ⟨p, by rw [hcall_agree ag hc]; exact h1, k3 s2⟩
    · rename_i hc
      split at hn
      · rename_i hf
        obtain ⟨av, ws, ks, e1, e2, e0, e3⟩ := nrm hn
        refine ⟨av, ws, ks, e1, e2, e0, fun s2 ag => ?_⟩
        show (step1 E g s2 o).val = _
        unfold step1
        simp only [hi]
        rw [← hcall_congr (ρ_agree ag), ← frz_agree ag]
        simp only [hc, hf]
        exact e3 s2 ag
      · split at hn
        · rw [T.bind_some] at hn
          obtain ⟨⟨s1, ws⟩, h1, h2⟩ := hn
          rw [show wrA (s1, ws) = .ret (s1, none) from rfl, T.ret_some] at h2
          cases h2
        · rw [T.fail_some] at hn; exact hn.elim
theorem skip_frame {d : Nat} {want : Bool} {wk : List Nat × List Nat} (hd : d ∈ tmpsOf ops o) (hn : (skipO s o d want).val = some (s', some wk)) : Framed ops s o s' wk fun s2 => skipO s2 o d want := by
  rw [show skipO s o d want = .ret (⟨setD s.t o.dst (skipV o s.t d want), s.h⟩, some ([], [])) from rfl, T.ret_some] at hn
  cases hn
  refine ⟨skipV o s.t d want, [], [], by rw [putK_nil]; rfl, rfl, (fun j b want' x hx => ?_), fun s2 ag => ?_⟩
  · unfold skipV at hx
    split at hx
    · cases hx; exact hd
    · cases hx
  · have : skipV o s2.t d want = skipV o s.t d want := by unfold skipV notDst; rw [ag.t d hd]
    rw [putK_nil]
    show (skipO s2 o d want).val = _
    unfold skipO
    rw [this]; rfl
theorem safe_agree {d : Nat} {want : Bool} (hd : d ∈ tmpsOf ops o) (ag : Agree ops o s s2) : safeAt E s2 o d want = safeAt E s o d want := by
  have h1 : notDst o s2.t d = notDst o s.t d := by unfold notDst; rw [ag.t d hd]
  have h2 : safeMem (ρOf E (some (d, want)) s2.t) (mget s2.h) o.op = safeMem (ρOf E (some (d, want)) s.t) (mget s.h) o.op := by
    cases ho : o.op <;> try rfl
    rename_i t x
    have hx : x ∈ o.op.operands := by rw [ho]; simp [Op.operands]
    simp only [safeMem]
    rw [← ρ_agree ag x hx]
    cases hr : ρOf E (some (d, want)) s.t x <;> try rfl
    rename_i k i off
    simp only []
    rw [ag.h k (by
      simp only [rdOf, rdN, List.mem_append, show memOp o.op = true by rw [ho]; rfl]
      exact .inr (mem_reach 2 (refs_tmps (E := E) (g := some (d, want)) hx (by rw [hr]; simp [refs2, refs1, refsC, refs0]))))]
  unfold safeAt
  rw [h1, h2]
theorem guarded_frame {d : Nat} {b want : Bool} {wk : List Nat × List Nat} (hd : d ∈ tmpsOf ops o) (hn : (guarded E s o d b want).val = some (s', some wk)) : Framed ops s o s' wk fun s2 => guarded E s2 o d b want := by
  have hnd : ∀ s2, Agree ops o s s2 → safeAt E s2 o d want = safeAt E s o d want := fun s2 ag => safe_agree hd ag
  unfold guarded at hn
  split at hn
  · rename_i hs
    split at hn
    · rename_i p hp
      split at hn
      · rename_i hfl
        rw [T.ret_some] at hn
        cases hn
        refine ⟨.gd d b want p.1, [], [], by rw [putK_nil]; rfl, rfl, (fun j b want x hx => by cases hx; exact hd), fun s2 ag => ?_⟩
        show (guarded E s2 o d b want).val = _
        unfold guarded
        rw [hnd s2 ag, hs, ← eff_agree ag, hp, putK_nil]
        simp only [hfl]
        rfl
      · rw [T.fail_some] at hn; exact hn.elim
    · rename_i hp
      rw [T.ifB_some] at hn
      rcases hn with ⟨_, hn⟩ | ⟨hq, hn⟩
      · rw [T.fail_some] at hn; exact hn.elim
      · obtain ⟨av, ws, ks, e1, e2, e0, e3⟩ := skip_frame (ops := ops) hd hn
        refine ⟨av, ws, ks, e1, e2, e0, fun s2 ag => ?_⟩
        show (guarded E s2 o d b want).val = _
        unfold guarded
        rw [hnd s2 ag, hs, ← eff_agree ag, hp]
        simp only []
        rw [T.ifB_some]
        exact .inr ⟨hq, e3 s2 ag⟩
  · rename_i hs
    rw [T.ifB_some] at hn
    rcases hn with ⟨hq, hn⟩ | ⟨hq, hn⟩
    · obtain ⟨av, ws, ks, e1, e2, e0, e3⟩ := step1_frame (ops := ops) hn
      refine ⟨av, ws, ks, e1, e2, e0, fun s2 ag => ?_⟩
      show (guarded E s2 o d b want).val = _
      unfold guarded
      rw [hnd s2 ag, hs]
      simp only []
      rw [T.ifB_some]
      exact .inl ⟨hq, e3 s2 ag⟩
    · obtain ⟨av, ws, ks, e1, e2, e0, e3⟩ := skip_frame (ops := ops) hd hn
      refine ⟨av, ws, ks, e1, e2, e0, fun s2 ag => ?_⟩
      show (guarded E s2 o d b want).val = _
      unfold guarded
      rw [hnd s2 ag, hs]
      simp only []
      rw [T.ifB_some]
      exact .inr ⟨hq, e3 s2 ag⟩
theorem stepG_frame {wk : List Nat × List Nat} (hn : (stepG E ops s o).val = some (s', some wk)) : Framed ops s o s' wk fun s2 => stepG E ops s2 o := by
  unfold stepG at hn
  split at hn
  · rename_i hgu
    obtain ⟨av, ws, ks, e1, e2, e0, e3⟩ := step1_frame (ops := ops) hn
    exact ⟨av, ws, ks, e1, e2, e0, fun s2 ag => by show (stepG E ops s2 o).val = _; unfold stepG; simp only [hgu]; exact e3 s2 ag⟩
  · rename_i j want hgu
    split at hn
    · rename_i d hj
      have hd : d ∈ tmpsOf ops o := by unfold tmpsOf; simp [hgu, hj]
      split at hn
      · rename_i b hb
        obtain ⟨av, ws, ks, e1, e2, e0, e3⟩ := guarded_frame (ops := ops) hd hn
        exact ⟨av, ws, ks, e1, e2, e0, fun s2 ag => by show (stepG E ops s2 o).val = _; unfold stepG; simp only [hgu, hj]; rw [ag.t d hd, hb]; exact e3 s2 ag⟩
      · rename_i j' b' w' b hb
        obtain ⟨av, ws, ks, e1, e2, e0, e3⟩ := guarded_frame (ops := ops) hd hn
        exact ⟨av, ws, ks, e1, e2, e0, fun s2 ag => by show (stepG E ops s2 o).val = _; unfold stepG; simp only [hgu, hj]; rw [ag.t d hd, hb]; exact e3 s2 ag⟩
      · rename_i j' b' w' x hnb hb
        rw [T.ifB_some] at hn
        rcases hn with ⟨hq, hn⟩ | ⟨hq, hn⟩
        · rw [T.fail_some] at hn; exact hn.elim
        · obtain ⟨av, ws, ks, e1, e2, e0, e3⟩ := skip_frame (ops := ops) hd hn
          exact ⟨av, ws, ks, e1, e2, e0, fun s2 ag => by show (stepG E ops s2 o).val = _; unfold stepG; simp only [hgu, hj]; rw [ag.t d hd, hb]; simp only []; rw [T.ifB_some]; exact .inr ⟨hq, e3 s2 ag⟩⟩
      · rw [T.fail_some] at hn; exact hn.elim
    · rw [T.fail_some] at hn; exact hn.elim

/-- States that read alike. -/
structure Eqv (s s2 : St) : Prop where
  t : ∀ n, getT s2.t n = getT s.t n
  n : ∀ n, mget s2.t n = none ↔ mget s.t n = none
  h : ∀ k, mget s2.h k = mget s.h k
theorem Eqv.refl (s : St) : Eqv s s := ⟨fun _ => rfl, fun _ => Iff.rfl, fun _ => rfl⟩
theorem Eqv.symm (e : Eqv s s2) : Eqv s2 s := ⟨fun n => (e.t n).symm, fun n => (e.n n).symm, fun k => (e.h k).symm⟩
theorem Eqv.trans {s3 : St} (e : Eqv s s2) (f : Eqv s2 s3) : Eqv s s3 := ⟨fun n => (f.t n).trans (e.t n), fun n => (f.n n).trans (e.n n), fun k => (f.h k).trans (e.h k)⟩
theorem Eqv.agree (e : Eqv s s2) : Agree ops o s s2 := ⟨fun n _ => e.t n, fun k _ => e.h k, fun k _ => by rw [e.h k]⟩
theorem getT_undo_eq (t : Tmps) (d n : Nat) : getT (undo t d) n = match mget t d with | none => getT t n | some _ => unGd d (getT t n) := by
  unfold undo
  cases hd : mget t d with
  | none => rfl
  | some y => exact getT_map t (unGd d) rfl n
theorem eqv_set {t t2 : Tmps} (ht : ∀ n, getT t2 n = getT t n) (hn : ∀ n, mget t2 n = none ↔ mget t n = none) (dst : Option Tmp) (x : AV) : (∀ n, getT (setD t2 dst x) n = getT (setD t dst x) n) ∧ (∀ n, mget (setD t2 dst x) n = none ↔ mget (setD t dst x) n = none) := by
  cases dst with
  | none => exact ⟨ht, hn⟩
  | some d =>
    refine ⟨fun n => ?_, fun n => ?_⟩
    · simp only [setD, getT_mset]
      split
      · rfl
      · rw [getT_undo_eq, getT_undo_eq, ht n]
        have := hn d
        cases h1 : mget t2 d <;> cases h2 : mget t d <;> simp_all
    · simp only [setD, mget_mset]
      split
      · exact Iff.rfl
      · rw [mget_undo, mget_undo]; exact hn n
theorem eqv_kill (e : Eqv s s2) (ks : List Nat) : Eqv (s.kill ks) (s2.kill ks) := by
  refine ⟨fun n => ?_, fun n => ?_, fun k => ?_⟩
  · show getT (s2.t.map fun p => (p.1, killA ks p.2)) n = getT (s.t.map fun p => (p.1, killA ks p.2)) n
    rw [getT_map s2.t (killA ks) rfl, getT_map s.t (killA ks) rfl, e.t n]
  · show mget (s2.t.map fun p => (p.1, killA ks p.2)) n = none ↔ mget (s.t.map fun p => (p.1, killA ks p.2)) n = none
    rw [mget_map, mget_map]
    have := e.n n
    cases h1 : mget s2.t n <;> cases h2 : mget s.t n <;> simp_all
  · show mget (s2.h.map fun p => (p.1, p.2.kill ks)) k = mget (s.h.map fun p => (p.1, p.2.kill ks)) k
    rw [mget_map (fun b : Blk => b.kill ks), mget_map (fun b : Blk => b.kill ks), e.h k]
theorem eqv_put (e : Eqv s s2) (dst : Option Tmp) (x : AV) (ws : Heap) (ks : List Nat) : Eqv (putK s dst x ws ks) (putK s2 dst x ws ks) := by
  have e := eqv_kill e ks
  obtain ⟨h1, h2⟩ := eqv_set e.t e.n dst x
  exact ⟨h1, h2, fun k => by simp only [putK, mget_msets, e.h k]⟩
theorem eqv_freeze (e : Eqv s s2) (k : Nat) : Eqv (s.freeze k) (s2.freeze k) := by
  unfold St.freeze
  rw [e.h k]
  split
  · rename_i bl _
    split
    · exact e
    · refine ⟨fun n => ?_, fun n => ?_, fun q => ?_⟩
      · show getT (s2.t.map fun p => (p.1, frz2 k bl p.2)) n = getT (s.t.map fun p => (p.1, frz2 k bl p.2)) n
        rw [getT_map s2.t (frz2 k bl) rfl, getT_map s.t (frz2 k bl) rfl, e.t n]
      · show mget (s2.t.map fun p => (p.1, frz2 k bl p.2)) n = none ↔ mget (s.t.map fun p => (p.1, frz2 k bl p.2)) n = none
        rw [mget_map, mget_map]
        have := e.n n
        cases h1 : mget s2.t n <;> cases h2 : mget s.t n <;> simp_all
      · show mget ((s2.h.filter fun p => !Nat.beq p.1 k).map fun p => (p.1, p.2.frz k bl)) q = mget ((s.h.filter fun p => !Nat.beq p.1 k).map fun p => (p.1, p.2.frz k bl)) q
        rw [mget_map (fun c => Blk.frz k c bl), mget_map (fun c => Blk.frz k c bl), mget_filter (fun q => !Nat.beq q k), mget_filter (fun q => !Nat.beq q k), e.h q]
  · exact e
theorem eqv_freezes : ∀ (ks : List Nat) {s s2 : St}, Eqv s s2 → Eqv (s.freezes ks) (s2.freezes ks)
  | [], s, s2, e => e
  | k :: r, s, s2, e => eqv_freezes r (eqv_freeze e k)
theorem Rel.eqv (rel : Rel E B N w0 S0 β0 s a w S β) (e : Eqv s s2) : Rel E B N w0 S0 β0 s2 a w S β := by
  have inv := rel.inv
  refine ⟨⟨inv.base, inv.lt, inv.inj, inv.new, fun k x hx => ?_, fun k bl hk => inv.cov k bl (by rw [← e.h k]; exact hk), inv.glob⟩, fun n => by rw [e.t n]; exact rel.tok n, fun n j b want x hn => ?_, rel.below, rel.sub, rel.news, rel.fix, rel.size, rel.defers⟩
  · obtain ⟨bl, h1, h2, h3⟩ := inv.dom k x hx
    exact ⟨bl, by rw [e.h k]; exact h1, h2, h3⟩
  · rw [e.t n] at hn
    obtain ⟨h1, h2⟩ := rel.gd n j b want x hn
    exact ⟨fun hh => h1 ((e.n j).1 hh), h2⟩
theorem stepG_eqv0 {wk : List Nat × List Nat} (e : Eqv s s2) {st : St → T (St × Option (List Nat × List Nat))} (hf : Framed ops s o s' wk st) : ∃ s2', (st s2).val = some (s2', some wk) ∧ Eqv s' s2' := by
  obtain ⟨av, ws, ks, e1, e2, _, e3⟩ := hf
  exact ⟨_, e3 s2 e.agree, by rw [e1]; exact eqv_put e _ _ _ _⟩
theorem norm_eqv {ws : List Nat} (e : Eqv s s2) (hn : (norm E g s o).val = some (s', ws)) : ∃ s2', (norm E g s2 o).val = some (s2', ws) ∧ Eqv s' s2' := by
  obtain ⟨av, ws', e1, e2, _, e3⟩ := norm_frame (ops := [o]) hn
  exact ⟨_, e3 s2 e.agree, by rw [e1]; exact eqv_put e _ _ _ _⟩
theorem step1_none (e : Eqv s s2) (hn : (step1 E g s o).val = some (s', none)) : ∃ s2', (step1 E g s2 o).val = some (s2', none) ∧ Eqv s' s2' := by
  have hρ : ∀ x, ρOf E g s2.t x = ρOf E g s.t x := fun x => by
    unfold ρOf
    cases x with
    | tmp n => simp only [ev]; rw [e.t n]
    | const v => rfl
    | global gl => rfl
    | func f => rfl
  have hρ' : ρOf E g s2.t = ρOf E g s.t := funext hρ
  have kn : ∀ {s : St} {p : AV × Heap × List Nat}, (kfin E s o.dst p).val = some (s', none) → False := by
    intro s p hk
    unfold kfin at hk
    split at hk
    · rw [T.ret_some] at hk; cases hk
    · rw [T.fail_some] at hk; exact hk
  have nn : ((norm E g s o).bind wrS).val = some (s', none) → False := by
    intro hq
    rw [T.bind_some] at hq
    obtain ⟨⟨s1, ws⟩, h1, h2⟩ := hq
    rw [show wrS (s1, ws) = .ret (s1, some (ws, [])) from rfl, T.ret_some] at h2
    cases h2
  unfold step1 at hn ⊢
  rw [hρ']
  cases hi : isApp o.op with
  | some q =>
    obtain ⟨qx, qy, qt⟩ := q
    simp only [hi] at hn
    cases hj : ownOf (ρOf E g s.t qx) with
    | some jj =>
      simp only [hj] at hn
      rw [T.bind_some] at hn
      obtain ⟨p, _, h2⟩ := hn
      exact (kn h2).elim
    | none =>
      simp only [hj] at hn
      exact (nn hn).elim
  | none =>
    simp only [hi] at hn ⊢
    cases hc : hcallOf E (ρOf E g s.t) o.op with
    | some q =>
      simp only [hc] at hn
      rw [T.bind_some] at hn
      obtain ⟨p, _, h2⟩ := hn
      exact (kn h2).elim
    | none =>
      simp only [hc] at hn ⊢
      cases hf : frz E (ρOf E g s.t) o.dst o.op with
      | nil =>
        simp only [hf] at hn
        exact (nn hn).elim
      | cons kk kr =>
        simp only [hf] at hn ⊢
        split at hn
        · rename_i hpl
          rw [T.bind_some] at hn
          obtain ⟨⟨s1, ws⟩, h1, h2⟩ := hn
          obtain ⟨s2', h3, h4⟩ := norm_eqv (eqv_freezes _ e) h1
          rw [show wrA (s1, ws) = .ret (s1, none) from rfl, T.ret_some] at h2
          cases h2
          refine ⟨s2', ?_, h4⟩
          have hpl2 : plainG s2.t g = true := by unfold plainG at hpl ⊢; split <;> simp_all [e.t]
          rw [hpl2]
          simp only [T.bind_some]
          exact ⟨_, h3, rfl⟩
        · rw [T.fail_some] at hn; exact hn.elim
theorem stepG_eqv {wr : Option (List Nat × List Nat)} (e : Eqv s s2) (hn : (stepG E ops s o).val = some (s', wr)) : ∃ s2', (stepG E ops s2 o).val = some (s2', wr) ∧ Eqv s' s2' := by
  cases wr with
  | some wk => exact stepG_eqv0 e (stepG_frame hn)
  | none =>
    have sk : ∀ {d want}, (skipO s o d want).val = some (s', none) → False := by
      intro d want hk
      rw [show skipO s o d want = .ret (⟨setD s.t o.dst (skipV o s.t d want), s.h⟩, some ([], [])) from rfl, T.ret_some] at hk
      cases hk
    have gd : ∀ {d b want}, (guarded E s o d b want).val = some (s', none) → ∃ s2', (guarded E s2 o d b want).val = some (s2', none) ∧ Eqv s' s2' := by
      intro d b want hn
      unfold guarded at hn ⊢
      have hnd : safeAt E s2 o d want = safeAt E s o d want := by
        have h1 : notDst o s2.t d = notDst o s.t d := by unfold notDst; rw [e.t d]
        have h3 : ρOf E (some (d, want)) s2.t = ρOf E (some (d, want)) s.t := funext fun x => by
          unfold ρOf
          cases x with
          | tmp n => simp only [ev]; rw [e.t n]
          | const v => rfl
          | global gl => rfl
          | func f => rfl
        have h4 : mget s2.h = mget s.h := funext e.h
        unfold safeAt
        rw [h1, h3, h4]
      rw [hnd]
      cases hs : safeAt E s o d want with
      | true =>
        simp only [hs] at hn
        split at hn
        · split at hn
          · rw [T.ret_some] at hn; cases hn
          · rw [T.fail_some] at hn; exact hn.elim
        · rw [T.ifB_some] at hn
          rcases hn with ⟨_, hn⟩ | ⟨hq, hn⟩
          · rw [T.fail_some] at hn; exact hn.elim
          · exact (sk hn).elim
      | false =>
        simp only [hs] at hn ⊢
        rw [T.ifB_some] at hn
        rcases hn with ⟨hq, hn⟩ | ⟨hq, hn⟩
        · obtain ⟨s2', h1, h2⟩ := step1_none e hn
          exact ⟨s2', by rw [T.ifB_some]; exact .inl ⟨hq, h1⟩, h2⟩
        · exact (sk hn).elim
    unfold stepG at hn ⊢
    cases hgu : o.guard with
    | none =>
      simp only [hgu] at hn ⊢
      exact step1_none e hn
    | some q =>
      obtain ⟨j, want⟩ := q
      simp only [hgu] at hn ⊢
      cases hj : dstOf ops j with
      | none => simp only [hj] at hn; rw [T.fail_some] at hn; exact hn.elim
      | some d =>
        simp only [hj] at hn ⊢
        rw [e.t d]
        split at hn
        · exact gd hn
        · exact gd hn
        · rw [T.ifB_some] at hn
          rcases hn with ⟨hq, hn⟩ | ⟨hq, hn⟩
          · rw [T.fail_some] at hn; exact hn.elim
          · exact (sk hn).elim
        · rw [T.fail_some] at hn; exact hn.elim
/-- What is killed. -/
theorem killA_eq {ks : List Nat} {x : AV} (hh : hits ks x = false) : killA ks x = x := by
  unfold killA
  unfold hits at hh
  rw [hh]
theorem hits_apart {ks : List Nat} {x : AV} (hh : ∀ k ∈ refs2 x, k ∉ ks) : hits ks x = false := by
  unfold hits
  rw [List.any_eq_false]
  intro k hk
  simpa using hh k hk
theorem hitsB_apart {ks : List Nat} {b : Blk} (hh : ∀ k ∈ blkRefs b, k ∉ ks) : hitsB ks b = false := by
  unfold hitsB
  rw [List.any_eq_false]
  intro k hk
  simpa using hh k hk
theorem hits_nil (x : AV) : hits [] x = false := hits_apart (fun k _ => by simp)
theorem hitsB_nil (b : Blk) : hitsB [] b = false := hitsB_apart (fun k _ => by simp)
theorem hits_mem {ks : List Nat} {x : AV} (hh : hits ks x = true) : ∃ k ∈ refs2 x, k ∈ ks := by
  unfold hits at hh
  rw [List.any_eq_true] at hh
  obtain ⟨k, h1, h2⟩ := hh
  exact ⟨k, h1, by simpa using h2⟩
theorem hitsB_mem {ks : List Nat} {b : Blk} (hh : hitsB ks b = true) : ∃ k ∈ blkRefs b, k ∈ ks := by
  unfold hitsB at hh
  rw [List.any_eq_true] at hh
  obtain ⟨k, h1, h2⟩ := hh
  exact ⟨k, h1, by simpa using h2⟩
theorem killB_eq {ks : List Nat} {b : Blk} (hh : hitsB ks b = false) : b.kill ks = b := by
  unfold Blk.kill
  split
  · rename_i hb
    obtain ⟨bx, ty, sz, rows⟩ := b
    simp only at hb
    subst hb
    have : (rows.map fun r => r.map (killA ks)) = rows := by
      have e : ∀ r ∈ rows, r.map (killA ks) = r := by
        intro r hr
        refine map_same fun y hy => killA_eq (hits_apart fun k hk => ?_)
        unfold hitsB at hh
        have := List.any_eq_false.1 hh k (by unfold blkRefs; simp only [List.mem_flatMap]; exact ⟨r, hr, y, hy, hk⟩)
        simpa using this
      rw [List.map_congr_left (g := id) e]
      simp
    simp only [this]
  · rfl
theorem refs_kill {ks : List Nat} {x : AV} {k : Nat} (hk : k ∈ refs2 (killA ks x)) : k ∈ refs2 x := by
  unfold killA at hk
  split at hk
  · simp [refs2, refs1, refsC, refs0] at hk
  · exact hk
theorem blkRefs_kill {ks : List Nat} {b : Blk} {k : Nat} (hk : k ∈ blkRefs (b.kill ks)) : k ∈ blkRefs b := by
  unfold Blk.kill at hk
  split at hk
  · rename_i hb
    unfold blkRefs at hk ⊢
    rw [hb] at hk ⊢
    simp only [List.mem_flatMap, List.mem_map] at hk ⊢
    obtain ⟨r, ⟨r0, hr0, rfl⟩, y, hy, hk⟩ := hk
    obtain ⟨y0, hy0, rfl⟩ := List.mem_map.1 hy
    exact ⟨r0, hr0, y0, hy0, refs_kill hk⟩
  · exact hk
theorem hits_kill {ks ks' : List Nat} {x : AV} (hh : hits ks (killA ks' x) = true) : killA ks' x = x := by
  unfold killA at hh ⊢
  split
  · rename_i h1
    rw [h1] at hh
    simp [hits, refs2, refs1, refsC, refs0] at hh
  · rfl
theorem hitsB_kill {ks ks' : List Nat} {b : Blk} (hh : hitsB ks (b.kill ks') = true) : hitsB ks b = true := by
  obtain ⟨k, h1, h2⟩ := hitsB_mem hh
  unfold hitsB
  rw [List.any_eq_true]
  exact ⟨k, blkRefs_kill h1, by simpa using h2⟩
/-- Setting d makes nothing forgotten. -/
theorem nu_iff {t : Tmps} {d : Nat} : (∀ n, getT (undo t d) n = getT t n) ↔ (mget t d = none ∨ ∀ n, gdOf d (getT t n) = false) := by
  constructor
  · intro hh
    cases hm : mget t d with
    | none => exact .inl rfl
    | some y =>
      refine .inr fun n => ?_
      have := hh n
      rw [getT_undo_eq, hm] at this
      simp only [unGd] at this
      split at this
      · rename_i hg
        rw [← this] at hg
        cases hg
      · assumption
  · rintro (hm | hh) n
    · rw [getT_undo_eq, hm]
    · rw [getT_undo_eq]
      split
      · rfl
      · unfold unGd; rw [hh n]
theorem putK_t {dst : Option Tmp} (hnu : ∀ d, dst = some d → ∀ n, getT (undo s.t d) n = getT s.t n) (x : AV) (ws : Heap) (ks : List Nat) (n : Nat) : getT (putK s dst x ws ks).t n = if dst = some n then x else killA ks (getT s.t n) := by
  have hk : ∀ n, getT (s.kill ks).t n = killA ks (getT s.t n) := fun n => getT_map s.t (killA ks) rfl n
  unfold putK
  cases dst with
  | none => simp [setD, hk]
  | some d =>
    simp only [setD, getT_mset]
    by_cases e : n = d
    · subst e; simp
    · rw [if_neg e, if_neg (by simpa using fun h => e h.symm)]
      have : ∀ n, getT (undo (s.kill ks).t d) n = getT (s.kill ks).t n := by
        rw [nu_iff]
        rcases nu_iff.1 (hnu d rfl) with hm | hh
        · refine .inl ?_
          show mget (s.t.map fun p => (p.1, killA ks p.2)) d = none
          rw [mget_map, hm]; rfl
        · refine .inr fun n => ?_
          rw [hk]
          cases hg : gdOf d (killA ks (getT s.t n)) with
          | false => rfl
          | true =>
            obtain ⟨b, want, y, hy⟩ := gdOf_true hg
            have := hh n
            rw [killA_gd hy] at this
            simp [gdOf] at this
      rw [this, hk]
theorem putK_n (dst : Option Tmp) (x : AV) (ws : Heap) (ks : List Nat) (n : Nat) : mget (putK s dst x ws ks).t n = none ↔ (dst ≠ some n ∧ mget s.t n = none) := by
  have hk : mget (s.kill ks).t n = none ↔ mget s.t n = none := by
    show mget (s.t.map fun p => (p.1, killA ks p.2)) n = none ↔ _
    rw [mget_map]; cases mget s.t n <;> simp
  unfold putK
  cases dst with
  | none => simp [setD, hk]
  | some d =>
    simp only [setD, mget_mset]
    by_cases e : n = d
    · subst e; simp
    · rw [if_neg e, mget_undo, hk]; simp; exact fun _ => fun h => e h.symm
theorem putK_h (dst : Option Tmp) (x : AV) (ws : Heap) (ks : List Nat) (k : Nat) : mget (putK s dst x ws ks).h k = (mget ws.reverse k).or ((mget s.h k).map (Blk.kill ks)) := by
  unfold putK
  rw [mget_msets]
  show _ = (mget ws.reverse k).or ((mget s.h k).map (Blk.kill ks))
  congr 1
  exact mget_map (fun b : Blk => b.kill ks) s.h k
theorem mem_reach_up {hg : Nat → Option Blk} (n : Nat) {ks : List Nat} {k : Nat} (hk : k ∈ reach hg n ks) : k ∈ reach hg (n + 1) ks := mem_reach_up0 n hk
theorem rd_up {k : Nat} (hk : k ∈ rdOf ops s o) : k ∈ rdN 3 ops s o := by
  simp only [rdOf, rdN, List.mem_append] at hk ⊢
  refine hk.imp id ?_
  cases memOp o.op with
  | false => exact fun h => h
  | true => exact mem_reach_up 2
theorem reach3 {hg hg' : Nat → Option Blk} {ks : List Nat} (hh : ∀ k ∈ reach hg 2 ks, hg' k = hg k) : reach hg' 3 ks = reach hg 3 ks := reach_congr' 2 hh
theorem refs_agree (ag : Agree ops o s s2) : tmpRefs ops s2 o = tmpRefs ops s o := flatMap_same fun n hn => by rw [ag.t n hn]
theorem sh_agree (ag : Agree ops o s s2) : shOf ops s2 o = shOf ops s o := by
  unfold shOf
  rw [refs_agree ag]
theorem shape_kill (ks : List Nat) (b : Blk) : (b.kill ks).shape = b.shape := by
  unfold Blk.kill Blk.shape
  split <;> simp
theorem rd_agree (ag : Agree ops o s s2) : rdN 3 ops s2 o = rdN 3 ops s o := by
  have hh := ag.h
  unfold rdOf rdN at hh
  unfold rdN
  rw [refs_agree ag]
  cases hm : memOp o.op with
  | false => rfl
  | true =>
    simp only [hm] at hh ⊢
    rw [reach3 (hg := mget s.h) (hg' := mget s2.h)]
    intro k hk
    exact hh k (List.mem_append.2 (.inr hk))
/-- What the list of footprints says of a step. -/
structure FPOK (ops : List Oper) (s : St) (oo : Oper) (ww : Option (List Nat × List Nat)) (s1 : St) (f : FP) : Prop where
  o : f.o = oo
  tm : f.tm = tmpsOf ops oo
  wr : f.wr = ww
  rd : ∀ k ∈ rdN 3 ops s oo, k ∈ f.rd
  tr : ∀ k ∈ tmpRefs ops s oo, k ∈ f.tr
  tr3 : ∀ k ∈ rdN 3 ops s oo, k ∈ f.tr
  od1 : ∀ d, oo.dst = some d → ∀ k ∈ refs2 (getT s.t d), k ∈ f.tr
  od3 : ∀ k ∈ dstKeys oo.dst, ∀ b, mget s.h k = some b → ∀ j ∈ blkRefs b, j ∈ f.tr
  od2 : ∀ wk ks, ww = some (wk, ks) → ∀ k ∈ wk, ∀ b, mget s.h k = some b → ∀ j ∈ blkRefs b, j ∈ f.tr
  rf : ∀ k ∈ rfOf s1 oo ww, k ∈ f.rf
  kt : ∀ wk ks, ww = some (wk, ks) → ∀ n, hits ks (getT s.t n) = true → n ∈ f.kt
  hit : ∀ wk ks, ww = some (wk, ks) → ∀ k b, mget s.h k = some b → hitsB ks b = true → k ∈ f.hit
  nu : f.nu = true → ∀ d, oo.dst = some d → ∀ n, getT (undo s.t d) n = getT s.t n
  og : ∀ d j b want x, oo.dst = some d → getT s.t d = .gd j b want x → j ∈ f.og
  ogk : ∀ wk ks, ww = some (wk, ks) → ∀ n j b want x, hits ks (getT s.t n) = true → getT s.t n = .gd j b want x → j ∈ f.og
  sh : ∀ k ∈ shOf ops s oo, k ∈ f.sh
  sp : ww.isSome = true → ∀ k, k ∉ f.ws → (mget s1.h k).map Blk.shape = (mget s.h k).map Blk.shape
theorem getT_mem {t : Tmps} {n : Nat} (h : getT t n ≠ .unk) : (n, getT t n) ∈ t := by
  unfold getT at h ⊢
  cases hm : mget t n with
  | none => rw [hm] at h; exact absurd rfl h
  | some x => exact mget_mem hm
theorem norm_store {t : TypeId} {x y : Operand} (ho : o.op = .store t x y) {wk : List Nat} (hn : (norm E g s o).val = some (s', wk)) (k : Nat) : (mget s'.h k).map Blk.shape = (mget s.h k).map Blk.shape := by
  unfold norm at hn
  rw [T.bind_some] at hn
  obtain ⟨p, hp, hn⟩ := hn
  rw [T.ret_some] at hn
  cases hn
  unfold eff at hp
  simp only [ho] at hp
  have e : mget (msets s.h p.2) k = (mget p.2.reverse k).or ((mget s.h k).map (Blk.kill [])) := by
    have := putK_h (s := s) none .unk p.2 [] k
    rw [putK_nil] at this
    exact this
  show (mget (msets s.h p.2) k).map Blk.shape = _
  rw [e]
  split at hp
  · unfold storeK at hp
    split at hp
    · rename_i b i off hx
      split at hp
      · rename_i blk hb
        simp only [T.bind_some, T.ifB_some, T.ret_some, T.fail_some, and_false, or_false] at hp
        obtain ⟨row, hrow, hc, rfl⟩ := hp
        by_cases hk : k = b
        · subst hk
          rw [hb]
          simp [mget, Blk.shape]
        · have : mget [(b, (⟨blk.box, blk.ty, blk.sz, blk.rows.set i (putAt row off (inCells blk.box (cellsOf (ρOf E g s.t y))))⟩ : Blk))].reverse k = none := mget_none_of (by simp; omega)
          rw [this, Option.none_or, Option.map_map]
          congr 1
          funext b; exact shape_kill [] b
      · rw [T.fail_some] at hp; exact hp.elim
    · rw [T.fail_some] at hp; exact hp.elim
  · rw [T.fail_some] at hp; exact hp.elim
theorem step1_store {t : TypeId} {x y : Operand} (ho : o.op = .store t x y) {wr : Option (List Nat × List Nat)} (hn : (step1 E g s o).val = some (s', wr)) (k : Nat) : (mget s'.h k).map Blk.shape = (mget s.h k).map Blk.shape := by
  unfold step1 at hn
  simp only [show isApp o.op = none from by rw [ho]; rfl, show hcallOf E (ρOf E g s.t) o.op = none from by rw [ho]; rfl, show frz E (ρOf E g s.t) o.dst o.op = [] from by rw [ho]; rfl] at hn
  rw [T.bind_some] at hn
  obtain ⟨⟨s2, wk⟩, h1, h2⟩ := hn
  unfold wrS at h2
  rw [T.ret_some] at h2
  cases h2
  exact norm_store ho h1 k
theorem guarded_store {t : TypeId} {x y : Operand} (ho : o.op = .store t x y) {d : Nat} {b want : Bool} {wr : Option (List Nat × List Nat)} (hn : (guarded E s o d b want).val = some (s', wr)) (k : Nat) : (mget s'.h k).map Blk.shape = (mget s.h k).map Blk.shape := by
  have skip : (skipO s o d want).val = some (s', wr) → (mget s'.h k).map Blk.shape = (mget s.h k).map Blk.shape := fun h => by
    unfold skipO at h
    rw [T.ret_some] at h
    cases h
    rfl
  unfold guarded at hn
  split at hn
  · split at hn
    · split at hn
      · rw [T.ret_some] at hn
        cases hn
        rfl
      · rw [T.fail_some] at hn; exact hn.elim
    · rw [T.ifB_some] at hn
      rcases hn with ⟨_, hn⟩ | ⟨_, hn⟩
      · rw [T.fail_some] at hn; exact hn.elim
      · exact skip hn
  · rw [T.ifB_some] at hn
    rcases hn with ⟨_, hn⟩ | ⟨_, hn⟩
    · exact step1_store ho hn k
    · exact skip hn
theorem store_shape (hst : stOp o.op = true) {wr : Option (List Nat × List Nat)} (hn : (stepG E ops s o).val = some (s', wr)) (k : Nat) : (mget s'.h k).map Blk.shape = (mget s.h k).map Blk.shape := by
  obtain ⟨t, x, y, ho⟩ : ∃ t x y, o.op = .store t x y := by
    revert hst
    cases o.op <;> intro hst <;> first | exact ⟨_, _, _, rfl⟩ | cases hst
  unfold stepG at hn
  split at hn
  · exact step1_store ho hn k
  · split at hn
    · split at hn
      · exact guarded_store ho hn k
      · exact guarded_store ho hn k
      · rename_i d _ _ _ _ _ _ _
        rw [T.ifB_some] at hn
        rcases hn with ⟨_, hn⟩ | ⟨_, hn⟩
        · rw [T.fail_some] at hn; exact hn.elim
        · unfold skipO at hn
          rw [T.ret_some] at hn
          cases hn
          rfl
      · rw [T.fail_some] at hn; exact hn.elim
    · rw [T.fail_some] at hn; exact hn.elim
theorem fpOf_ok (wr : Option (List Nat × List Nat)) (s1 : St) (hstep : (stepG E ops s o).val = some (s1, wr)) : FPOK ops s o wr s1 (fpOf ops s o wr s1) := by
  have hne : ∀ {ks x}, hits ks x = true → x ≠ .unk := by
    rintro ks x h rfl
    simp [hits, refs2, refs1, refsC, refs0] at h
  have ho : (fpOf ops s o wr s1).o = o := by unfold fpOf; exact Eq.refl _
  have hwr : (fpOf ops s o wr s1).wr = wr := by unfold fpOf; exact Eq.refl _
  have htm : (fpOf ops s o wr s1).tm = tmpsOf ops o := by unfold fpOf; exact Eq.refl _
  refine ⟨ho, htm, hwr, ?_, ?_, ?_, ?_, ?_, ?_, ?_, ?_, ?_, ?_, ?_, ?_, fun k hk => hk, ?_⟩
  · intro k hk
    show k ∈ rdN 3 ops s o
    exact hk
  · intro k hk
    show k ∈ tmpRefs ops s o ++ rdN 3 ops s o ++ oldRefs s o wr
    exact List.mem_append.2 (.inl (List.mem_append.2 (.inl hk)))
  · intro k hk
    show k ∈ tmpRefs ops s o ++ rdN 3 ops s o ++ oldRefs s o wr
    exact List.mem_append.2 (.inl (List.mem_append.2 (.inr hk)))
  · intro d hd k hk
    show k ∈ tmpRefs ops s o ++ rdN 3 ops s o ++ oldRefs s o wr
    refine List.mem_append.2 (.inr ?_)
    unfold oldRefs
    rw [hd]
    exact List.mem_append.2 (.inl (List.mem_append.2 (.inl hk)))
  · intro k hk b hb j hj
    show j ∈ tmpRefs ops s o ++ rdN 3 ops s o ++ oldRefs s o wr
    refine List.mem_append.2 (.inr ?_)
    unfold oldRefs
    refine List.mem_append.2 (.inr (List.mem_flatMap.2 ⟨k, hk, ?_⟩))
    unfold refsH
    rw [hb]; exact hj
  · intro wk ks hw k hk b hb j hj
    show j ∈ tmpRefs ops s o ++ rdN 3 ops s o ++ oldRefs s o wr
    refine List.mem_append.2 (.inr ?_)
    unfold oldRefs
    rw [hw]
    refine List.mem_append.2 (.inl (List.mem_append.2 (.inr (List.mem_flatMap.2 ⟨k, hk, ?_⟩))))
    unfold refsH
    rw [hb]; exact hj
  · intro k hk
    exact hk
  · intro wk ks hw n hn
    show n ∈ ktOf s wr
    subst hw
    cases ks with
    | nil => rw [hits_nil] at hn; cases hn
    | cons q qs => exact List.mem_map.2 ⟨_, List.mem_filter.2 ⟨getT_mem (hne hn), hn⟩, rfl⟩
  · intro wk ks hw k b hb hh
    show k ∈ hitOf s wr
    subst hw
    cases ks with
    | nil => rw [hitsB_nil] at hh; cases hh
    | cons q qs => exact List.mem_map.2 ⟨_, List.mem_filter.2 ⟨mget_mem hb, hh⟩, rfl⟩
  · intro hnu d hd n
    have hnu : nuB s.t o.dst = true := hnu
    rw [hd] at hnu
    simp only [nuB] at hnu
    rw [getT_undo_eq]
    split at hnu <;> rename_i hm
    · simp only [hm]
    · simp only [hm]
      unfold unGd
      split
      · rename_i hg
        exfalso
        unfold getT at hg
        cases hk : mget s.t n with
        | none => rw [hk] at hg; cases hg
        | some y =>
          rw [hk] at hg
          have := List.all_eq_true.1 hnu (n, y) (mget_mem hk)
          simp only [Bool.not_eq_true'] at this
          rw [hg] at this
          cases this
      · rfl
  · intro d j b want x hd hx
    show j ∈ ogOf s.t o.dst ++ ogkOf s wr
    refine List.mem_append.2 (.inl ?_)
    rw [hd]
    simp only [ogOf, hx]
    simp
  · intro wk ks hw n j b want x hn hx
    show j ∈ ogOf s.t o.dst ++ ogkOf s wr
    refine List.mem_append.2 (.inr ?_)
    subst hw
    cases ks with
    | nil => rw [hits_nil] at hn; cases hn
    | cons q qs =>
      refine List.mem_flatMap.2 ⟨_, List.mem_filter.2 ⟨getT_mem (hne hn), hn⟩, ?_⟩
      simp only [hx, gdBy]
      simp
  · intro hs k hk
    cases wr with
    | none => cases hs
    | some wkk =>
      cases hst : stOp o.op with
      | true => exact store_shape hst hstep k
      | false =>
        have hk' : k ∉ wkk.1 := fun hh => hk (by
          show k ∈ wsOf o (some wkk)
          unfold wsOf
          rw [hst]
          exact hh)
        obtain ⟨av, ws, ks, rfl, rfl, _, _⟩ := stepG_frame hstep
        rw [putK_h, mget_none_of (by simpa using hk'), Option.none_or, Option.map_map]
        congr 1
        funext b; exact shape_kill ks b
theorem rf_eq (s s2 : St) (x : AV) (ws : Heap) (ks : List Nat) : rfOf (putK s2 o.dst x ws ks) o (some (ws.map (·.1), ks)) = rfOf (putK s o.dst x ws ks) o (some (ws.map (·.1), ks)) := by
  unfold rfOf
  have e1 : ∀ s : St, dstRefs (putK s o.dst x ws ks).t o.dst = (match o.dst with | some _ => refs2 x | none => []) := by
    intro s
    cases hd : o.dst with
    | none => rfl
    | some d => simp only [dstRefs, putK, setD, getT_mset, if_true]
  rw [e1 s, e1 s2]
  congr 1
  unfold wrRefs
  refine flatMap_same fun k hk => ?_
  unfold refsH
  rw [putK_h, putK_h]
  have : mget ws.reverse k ≠ none := by
    obtain ⟨b, hb⟩ := mget_ne (m := ws.reverse) (k := k) (by simpa using hk)
    rw [hb]; simp
  cases hm : mget ws.reverse k with
  | none => exact absurd hm this
  | some b => rfl
theorem FPOK.rf_av {x : AV} {ws : Heap} {ks : List Nat} {f : FP} (hf : FPOK ops s o (some (ws.map (·.1), ks)) (putK s o.dst x ws ks) f) {d : Nat} (hd : o.dst = some d) : ∀ k ∈ refs2 x, k ∈ f.rf := fun k hk => hf.rf k (by
  unfold rfOf
  refine List.mem_append.2 (.inl ?_)
  rw [hd]
  simp only [dstRefs, putK, setD, getT_mset, if_true]
  exact hk)
theorem FPOK.rf_ws {x : AV} {ws : Heap} {ks : List Nat} {f : FP} (hf : FPOK ops s o (some (ws.map (·.1), ks)) (putK s o.dst x ws ks) f) {k : Nat} {b : Blk} (hb : mget ws.reverse k = some b) : ∀ j ∈ blkRefs b, j ∈ f.rf := fun j hj => hf.rf j (by
  unfold rfOf
  refine List.mem_append.2 (.inr (List.mem_flatMap.2 ⟨k, ?_, ?_⟩))
  · have := List.mem_map_of_mem (f := fun (p : Nat × Blk) => p.1) (mget_mem hb)
    simpa using this
  · unfold refsH
    rw [putK_h, hb]
    exact hj)
theorem FPOK.eqv {wr : Option (List Nat × List Nat)} {s1 s2' : St} {f : FP} (hf : FPOK ops s o wr s1 f) (e : Eqv s s2) (e1 : Eqv s1 s2') : FPOK ops s2 o wr s2' f := by
  refine ⟨hf.o, hf.tm, hf.wr, fun k hk => hf.rd k (by rw [rd_agree e.agree] at hk; exact hk), fun k hk => hf.tr k (by rw [refs_agree e.agree] at hk; exact hk), fun k hk => hf.tr3 k (by rw [rd_agree e.agree] at hk; exact hk), fun d hd k hk => hf.od1 d hd k (by rw [e.t d] at hk; exact hk), fun k hk b hb => hf.od3 k hk b (by rw [e.h k] at hb; exact hb), fun wk ks hw k hk b hb => hf.od2 wk ks hw k hk b (by rw [e.h k] at hb; exact hb), fun k hk => hf.rf k ?_, fun wk ks hw n hn => hf.kt wk ks hw n (by rw [e.t n] at hn; exact hn),
    fun wk ks hw k b hb => hf.hit wk ks hw k b (by rw [e.h k] at hb; exact hb), fun hnu d hd n => ?_, fun d j b want x hd hx => hf.og d j b want x hd (by rw [← e.t d]; exact hx), fun wk ks hw n j b want x hn hx => hf.ogk wk ks hw n j b want x (by rw [e.t n] at hn; exact hn) (by rw [e.t n] at hx; exact hx), fun k hk => hf.sh k (by rw [sh_agree e.agree] at hk; exact hk), fun hw k hk => by rw [e1.h k, e.h k]; exact hf.sp hw k hk⟩
  · unfold rfOf at hk ⊢
    have e2 : dstRefs s2'.t o.dst = dstRefs s1.t o.dst := by
      cases o.dst with
      | none => rfl
      | some d => simp only [dstRefs]; rw [e1.t d]
    have e3 : wrRefs s2'.h wr = wrRefs s1.h wr := by
      have e4 : refsH (mget s2'.h) = refsH (mget s1.h) := by funext k; unfold refsH; rw [e1.h k]
      unfold wrRefs
      rw [e4]
    rw [e2, e3] at hk
    exact hk
  · have := hf.nu hnu d hd n
    rw [getT_undo_eq] at this ⊢
    rw [e.t n]
    have hn := e.n d
    cases h1 : mget s2.t d <;> cases h2 : mget s.t d <;> simp_all
/-- A run through operations, by their numbers. -/
def Run (E : Env) (ops : List Oper) : List Nat → St → List FP → St → Prop
  | [], s, tr, s' => tr = [] ∧ Eqv s s'
  | i :: l, s, tr, s' => ∃ o s1 wr f tr', ops[i]? = some o ∧ (stepG E ops s o).val = some (s1, wr) ∧ FPOK ops s o wr s1 f ∧ tr = f :: tr' ∧ Run E ops l s1 tr' s'
theorem Run.eqv : ∀ {l : List Nat} {s s2 : St} {tr : List FP} {s' : St}, Run E ops l s tr s' → Eqv s s2 → Run E ops l s2 tr s'
  | [], s, s2, tr, s', hr, e => ⟨hr.1, e.symm.trans hr.2⟩
  | i :: l, s, s2, tr, s', ⟨o, s1, wr, f, tr', h1, h2, h3, h4, h5⟩, e => by
    obtain ⟨s1', k1, k2⟩ := stepG_eqv e h2
    exact ⟨o, s1', wr, f, tr', h1, k1, h3.eqv e k2, h4, h5.eqv k2⟩
theorem apart_spec {x y : List Nat} (hh : apart x y = true) : ∀ k ∈ x, k ∉ y := fun k hk => by
  have := List.all_eq_true.1 hh k hk
  simpa using this
theorem offDst_spec {l : List Nat} (hh : offDst o l = true) : ∀ d, o.dst = some d → d ∉ l := fun d hd => by
  unfold offDst at hh
  rw [hd] at hh
  simpa using hh
theorem oneOf_spec {x y : List Nat} (hh : oneOf x y = true) : x = [] ∨ y = [] := by
  cases x
  · exact .inl rfl
  · cases y
    · exact .inr rfl
    · cases hh
theorem Run.swap {b i : Nat} {l : List Nat} {fb fi : FP} {tr : List FP} (hr : Run E ops (b :: i :: l) s (fb :: fi :: tr) s') (hno : noHit ops fb fi = true) : Run E ops (i :: b :: l) s (fi :: fb :: tr) s' := by
  obtain ⟨ob, s1, wb, f1, tr1, hb1, hb2, hb3, hb4, oi, s2, wi, f2, tr2, hi1, hi2, hi3, hi4, hl⟩ := hr
  cases hb4
  cases hi4
  unfold noHit at hno
  simp only [Bool.and_eq_true] at hno
  obtain ⟨⟨⟨⟨⟨⟨⟨⟨⟨nu1, nu2⟩, sh1⟩, sh2⟩, t1⟩, t2⟩, dd⟩, og1⟩, og2⟩, hw⟩ := hno
  have sh1 := apart_spec sh1
  have sh2 := apart_spec sh2
  rw [hb3.o] at t1 dd og1
  rw [hb3.tm] at t2
  rw [hi3.o] at t2 dd og2
  rw [hi3.tm] at t1
  rw [hb3.wr, hi3.wr] at hw
  cases wb with
  | none => cases hw
  | some wkb =>
    cases wi with
    | none => cases hw
    | some wki =>
      simp only [Bool.and_eq_true] at hw
      obtain ⟨⟨⟨⟨⟨⟨⟨⟨⟨⟨w1, w2⟩, w3⟩, one⟩, c1⟩, c2⟩, c3⟩, c4⟩, c5⟩, c6⟩, c7⟩ := hw
      obtain ⟨a1, ws1, k1, rfl, rfl, g1, fr1⟩ := stepG_frame hb2
      obtain ⟨a2, ws2, k2, rfl, rfl, g2, fr2⟩ := stepG_frame hi2
      simp only at w1 w2 w3 one c4 c5 c6 c7
      rw [hi3.tm] at c1
      rw [hi3.o] at c2
      have w1 := apart_spec w1
      have w2 := apart_spec w2
      have w3 := apart_spec w3
      have c1 := apart_spec c1
      have c2 := offDst_spec c2
      have c3 := apart_spec c3
      have c4 := apart_spec c4
      have c5 := apart_spec c5
      have c6 := apart_spec c6
      have c7 := apart_spec c7
      have one := oneOf_spec one
      have t1 := offDst_spec t1
      have t2 := offDst_spec t2
      have dd := offDst_spec dd
      have og1 := offDst_spec og1
      have og2 := offDst_spec og2
      have ddi : ∀ d, oi.dst = some d → ob.dst ≠ some d := fun d hd hh => dd d hh (by rw [hd]; simp)
      have ddb : ∀ d, ob.dst = some d → oi.dst ≠ some d := fun d hd hh => dd d hd (by rw [hh]; simp)
      have getb := putK_t (s := s) (dst := ob.dst) (hb3.nu nu1) a1 ws1 k1
      have notW : ∀ {ws : Heap} {k : Nat}, k ∉ ws.map (·.1) → mget ws.reverse k = none := fun {ws k} hk => mget_none_of (by simpa using hk)
      -- what b leaves as it was
      have keepT : ∀ n, ob.dst ≠ some n → n ∉ fb.kt → getT (putK s ob.dst a1 ws1 k1).t n = getT s.t n := by
        intro n hn hk
        rw [getb, if_neg hn]
        refine killA_eq ?_
        cases hh : hits k1 (getT s.t n) with
        | false => rfl
        | true => exact absurd (hb3.kt _ _ rfl n hh) hk
      have keepH : ∀ k, k ∉ ws1.map (·.1) → k ∉ fb.hit → mget (putK s ob.dst a1 ws1 k1).h k = mget s.h k := by
        intro k hk hh
        rw [putK_h, notW hk, Option.none_or]
        cases hm : mget s.h k with
        | none => rfl
        | some bl =>
          simp only [Option.map_some]
          rw [killB_eq]
          cases hb : hitsB k1 bl with
          | false => rfl
          | true => exact absurd (hb3.hit _ _ rfl k bl hm hb) hh
      have shB : ∀ k, k ∉ fb.ws → (mget (putK s ob.dst a1 ws1 k1).h k).map Blk.shape = (mget s.h k).map Blk.shape := hb3.sp rfl
      have mapK : ∀ (ks : List Nat) (q : Option Blk), (q.map (Blk.kill ks)).map Blk.shape = q.map Blk.shape := fun ks q => by
        cases q with
        | none => rfl
        | some b => simp only [Option.map_some, shape_kill]
      have shI : ∀ k, k ∉ fi.ws → (mget (putK s oi.dst a2 ws2 k2).h k).map Blk.shape = (mget s.h k).map Blk.shape := by
        intro k hk
        have h0 := hi3.sp rfl k hk
        rw [putK_h] at h0 ⊢
        cases hm : mget ws2.reverse k with
        | none => rw [Option.none_or]; exact mapK _ _
        | some b2 =>
          rw [hm, Option.some_or] at h0
          rw [Option.some_or, h0, putK_h]
          have hk1 : k ∉ ws1.map (·.1) := fun hh => w3 k hh (by
            have := List.mem_map_of_mem (f := fun (p : Nat × Blk) => p.1) (mget_mem hm)
            simpa using this)
          rw [notW hk1, Option.none_or]; exact mapK _ _
      have ag1 : Agree ops oi (putK s ob.dst a1 ws1 k1) s := by
        refine ⟨fun n hn => (keepT n (fun hd => t1 n hd hn) (fun hk => c1 n hk hn)).symm, fun k hk => ?_, fun k hk => (shB k fun hh => sh1 k hh (hi3.sh k hk)).symm⟩
        have := hi3.rd k (rd_up hk)
        exact (keepH k (fun hh => w1 k hh this) (fun hh => c3 k hh this)).symm
      have hi2' := fr2 s ag1
      -- nothing is forgotten where i goes first
      have undo2 : ∀ d, oi.dst = some d → ∀ n, getT (undo s.t d) n = getT s.t n := by
        intro d hd
        rw [nu_iff]
        rcases nu_iff.1 (hi3.nu nu2 d hd) with hm | hh
        · exact .inl ((putK_n ob.dst a1 ws1 k1 d).1 hm).2
        · refine .inr fun n => ?_
          cases hg : gdOf d (getT s.t n) with
          | false => rfl
          | true =>
            exfalso
            obtain ⟨b', want', z, hz⟩ := gdOf_true hg
            by_cases hn : ob.dst = some n
            · exact og2 d hd (hb3.og n d b' want' z hn hz)
            · have := hh n
              rw [getb, if_neg hn] at this
              cases hk : hits k1 (getT s.t n) with
              | true => exact og2 d hd (hb3.ogk _ _ rfl n d b' want' z hk hz)
              | false => rw [killA_eq hk, hg] at this; cases this
      have geti := putK_t (s := s) (dst := oi.dst) undo2 a2 ws2 k2
      have ag2 : Agree ops ob s (putK s oi.dst a2 ws2 k2) := by
        refine ⟨fun n hn => ?_, fun k hk => ?_, fun k hk => shI k fun hh => sh2 k hh (hb3.sh k hk)⟩
        · rw [geti, if_neg (fun hd => t2 n hd hn)]
          exact killA_eq (hits_apart fun k hk hh => c6 k hh (hb3.tr k (List.mem_flatMap.2 ⟨n, hn, hk⟩)))
        · rw [putK_h, notW (fun hh => w2 k hh (hb3.rd k (rd_up hk))), Option.none_or]
          cases hm : mget s.h k with
          | none => rfl
          | some bl =>
            simp only [Option.map_some]
            have hnew : ∀ j ∈ blkRefs bl, j ∉ k2 := by
              intro j hj hh
              simp only [rdOf, rdN, List.mem_append] at hk
              rcases hk with hk | hk
              · exact c6 j hh (hb3.od3 k hk bl hm j hj)
              · refine c6 j hh (hb3.tr3 j ?_)
                simp only [rdN, List.mem_append]
                refine .inr ?_
                cases hmm : memOp ob.op with
                | false => simp only [hmm] at hk; cases hk
                | true =>
                  simp only [hmm] at hk ⊢
                  exact mem_reach_succ 2 hk hm hj
            rw [killB_eq (hitsB_apart hnew)]
      have hb2' := fr1 _ ag2
      -- the footprints
      have fi' : FPOK ops s oi (some (ws2.map (·.1), k2)) (putK s oi.dst a2 ws2 k2) fi := by
        refine ⟨hi3.o, hi3.tm, hi3.wr, ?_, ?_, ?_, ?_, ?_, ?_, ?_, ?_, ?_, ?_, ?_, ?_, fun k hk => hi3.sh k (by rw [sh_agree ag1] at hk; exact hk), fun _ k hk => shI k hk⟩
        · intro k hk
          rw [rd_agree ag1] at hk
          exact hi3.rd k hk
        · intro k hk
          rw [refs_agree ag1] at hk
          exact hi3.tr k hk
        · intro k hk
          rw [rd_agree ag1] at hk
          exact hi3.tr3 k hk
        · intro d hd k hk
          rw [← keepT d (ddi d hd) (c2 d hd)] at hk
          exact hi3.od1 d hd k hk
        · intro k hk b hb j hj
          have hrd := hi3.rd k (by simp only [rdN, List.mem_append]; exact .inl hk)
          rw [← keepH k (fun hh => w1 k hh hrd) (fun hh => c3 k hh hrd)] at hb
          exact hi3.od3 k hk b hb j hj
        · intro wk ks hw k hk b hb j hj
          cases hw
          rw [← keepH k (fun hh => w3 k hh hk) (fun hh => c4 k hh hk)] at hb
          exact hi3.od2 _ _ rfl k hk b hb j hj
        · intro k hk
          rw [rf_eq (putK s ob.dst a1 ws1 k1) s] at hk
          exact hi3.rf k hk
        · intro wk ks hw n hn
          cases hw
          rcases one with rfl | rfl
          · by_cases hd : ob.dst = some n
            · obtain ⟨k, q1, q2⟩ := hits_mem hn
              exact absurd (hb3.od1 n hd k q1) (c6 k q2)
            · refine hi3.kt _ _ rfl n ?_
              rw [getb, if_neg hd, killA_nil]
              exact hn
          · rw [hits_nil] at hn; cases hn
        · intro wk ks hw k b hb hh
          cases hw
          rcases one with rfl | rfl
          · by_cases hk : k ∈ ws1.map (·.1)
            · obtain ⟨j, q1, q2⟩ := hitsB_mem hh
              exact absurd (hb3.od2 _ _ rfl k hk b hb j q1) (c6 j q2)
            · refine hi3.hit _ _ rfl k b ?_ hh
              rw [putK_h, notW hk, hb]
              simp only [Option.none_or, Option.map_some]
              rw [blk_kill_nil]
          · rw [hitsB_nil] at hh; cases hh
        · exact fun _ => undo2
        · intro d j b want x hd hx
          refine hi3.og d j b want x hd ?_
          rw [keepT d (ddi d hd) (c2 d hd)]
          exact hx
        · intro wk ks hw n j b want x hn hx
          cases hw
          rcases one with rfl | rfl
          · by_cases hd : ob.dst = some n
            · obtain ⟨k, q1, q2⟩ := hits_mem hn
              exact absurd (hb3.od1 n hd k q1) (c6 k q2)
            · have e : getT (putK s ob.dst a1 ws1 []).t n = getT s.t n := by rw [getb, if_neg hd, killA_nil]
              exact hi3.ogk _ _ rfl n j b want x (by rw [e]; exact hn) (by rw [e]; exact hx)
          · rw [hits_nil] at hn; cases hn
      have hdb : ∀ d, ob.dst = some d → getT (putK s oi.dst a2 ws2 k2).t d = killA k2 (getT s.t d) := fun d hd => by rw [geti, if_neg (ddb d hd)]
      have hnA : ∀ n, hits k1 (getT (putK s oi.dst a2 ws2 k2).t n) = true → oi.dst ≠ some n ∧ getT (putK s oi.dst a2 ws2 k2).t n = getT s.t n := by
        intro n hn
        rw [geti] at hn ⊢
        by_cases hd : oi.dst = some n
        · rw [if_pos hd] at hn
          obtain ⟨k, q1, q2⟩ := hits_mem hn
          exact absurd (hi3.rf_av hd k q1) (c5 k q2)
        · rw [if_neg hd] at hn ⊢
          exact ⟨hd, hits_kill hn⟩
      have nuB' : ∀ d, ob.dst = some d → ∀ n, getT (undo (putK s oi.dst a2 ws2 k2).t d) n = getT (putK s oi.dst a2 ws2 k2).t n := by
        intro d hd
        rw [nu_iff]
        rcases nu_iff.1 (hb3.nu nu1 d hd) with hm | hh
        · exact .inl ((putK_n oi.dst a2 ws2 k2 d).2 ⟨ddb d hd, hm⟩)
        · refine .inr fun n => ?_
          cases hg : gdOf d (getT (putK s oi.dst a2 ws2 k2).t n) with
          | false => rfl
          | true =>
            exfalso
            obtain ⟨b', want', z, hz⟩ := gdOf_true hg
            rw [geti] at hz
            by_cases hn : oi.dst = some n
            · rw [if_pos hn] at hz
              exact t1 d hd (g2 d b' want' z hz)
            · rw [if_neg hn] at hz
              have := hh n
              rw [killA_gd hz] at this
              simp [gdOf] at this
      have fb' : FPOK ops (putK s oi.dst a2 ws2 k2) ob (some (ws1.map (·.1), k1)) (putK (putK s oi.dst a2 ws2 k2) ob.dst a1 ws1 k1) fb := by
        have shB2 : ∀ k, k ∉ fb.ws → (mget (putK (putK s oi.dst a2 ws2 k2) ob.dst a1 ws1 k1).h k).map Blk.shape = (mget (putK s oi.dst a2 ws2 k2).h k).map Blk.shape := by
          intro k hk
          have h0 := shB k hk
          rw [putK_h] at h0
          rw [putK_h (s := putK s oi.dst a2 ws2 k2) (dst := ob.dst)]
          cases hm : mget ws1.reverse k with
          | none => rw [Option.none_or]; exact mapK _ _
          | some b1 =>
            rw [hm, Option.some_or] at h0
            rw [Option.some_or, h0, putK_h]
            have hk2 : k ∉ ws2.map (·.1) := w3 k (by
              have := List.mem_map_of_mem (f := fun (p : Nat × Blk) => p.1) (mget_mem hm)
              simpa using this)
            rw [notW hk2, Option.none_or]; exact (mapK _ _).symm
        refine ⟨hb3.o, hb3.tm, hb3.wr, ?_, ?_, ?_, ?_, ?_, ?_, ?_, ?_, ?_, ?_, ?_, ?_, fun k hk => hb3.sh k (by rw [sh_agree ag2] at hk; exact hk), fun _ k hk => shB2 k hk⟩
        · intro k hk
          rw [rd_agree ag2] at hk
          exact hb3.rd k hk
        · intro k hk
          rw [refs_agree ag2] at hk
          exact hb3.tr k hk
        · intro k hk
          rw [rd_agree ag2] at hk
          exact hb3.tr3 k hk
        · intro d hd k hk
          rw [hdb d hd] at hk
          exact hb3.od1 d hd k (refs_kill hk)
        · intro k hk b hb j hj
          have hrd := hb3.rd k (by simp only [rdN, List.mem_append]; exact .inl hk)
          rw [putK_h, notW (fun hh => w2 k hh hrd), Option.none_or, Option.map_eq_some_iff] at hb
          obtain ⟨b0, h0, rfl⟩ := hb
          exact hb3.od3 k hk b0 h0 j (blkRefs_kill hj)
        · intro wk ks hw k hk b hb j hj
          cases hw
          rw [putK_h, notW (fun hh => w3 k hk hh), Option.none_or, Option.map_eq_some_iff] at hb
          obtain ⟨b0, h0, rfl⟩ := hb
          exact hb3.od2 _ _ rfl k hk b0 h0 j (blkRefs_kill hj)
        · intro k hk
          rw [rf_eq s (putK s oi.dst a2 ws2 k2)] at hk
          exact hb3.rf k hk
        · intro wk ks hw n hn
          cases hw
          obtain ⟨_, e⟩ := hnA n hn
          rw [e] at hn
          exact hb3.kt _ _ rfl n hn
        · intro wk ks hw k b hb hh
          cases hw
          rw [putK_h] at hb
          cases hm : mget ws2.reverse k with
          | some b2 =>
            rw [hm] at hb
            simp only [Option.some_or, Option.some.injEq] at hb
            subst hb
            obtain ⟨j, q1, q2⟩ := hitsB_mem hh
            exact absurd (hi3.rf_ws hm j q1) (c5 j q2)
          | none =>
            rw [hm, Option.none_or, Option.map_eq_some_iff] at hb
            obtain ⟨b0, h0, rfl⟩ := hb
            exact hb3.hit _ _ rfl k b0 h0 (hitsB_kill hh)
        · exact fun _ => nuB'
        · intro d j b want x hd hx
          rw [hdb d hd] at hx
          exact hb3.og d j b want x hd (killA_gd hx)
        · intro wk ks hw n j b want x hn hx
          cases hw
          obtain ⟨_, e⟩ := hnA n hn
          rw [e] at hn hx
          exact hb3.ogk _ _ rfl n j b want x hn hx
      refine ⟨oi, _, _, fi, fb :: tr, hi1, hi2', fi', rfl, ob, _, _, fb, tr, hb1, hb2', fb', rfl, hl.eqv ?_⟩
      -- the states read alike
      have av1 : ∀ n, ob.dst = some n → killA k2 a1 = a1 := fun n hn => killA_eq (hits_apart fun k hk hh => c7 k hh (hb3.rf_av hn k hk))
      have av2 : ∀ n, oi.dst = some n → killA k1 a2 = a2 := fun n hn => killA_eq (hits_apart fun k hk hh => c5 k hh (hi3.rf_av hn k hk))
      refine ⟨fun n => ?_, fun n => ?_, fun k => ?_⟩
      · rw [putK_t nuB', putK_t (hi3.nu nu2), geti, getb]
        by_cases h1 : ob.dst = some n
        · have h2 := ddb n h1
          rw [if_pos h1, if_neg h2, if_pos h1, av1 n h1]
        · rw [if_neg h1]
          by_cases h2 : oi.dst = some n
          · rw [if_pos h2, if_pos h2, av2 n h2]
          · rw [if_neg h2, if_neg h2, if_neg h1]
            rcases one with rfl | rfl
            · rw [killA_nil, killA_nil]
            · rw [killA_nil, killA_nil]
      · simp only [putK_n]
        exact ⟨fun ⟨p, q, r⟩ => ⟨q, p, r⟩, fun ⟨p, q, r⟩ => ⟨q, p, r⟩⟩
      · simp only [putK_h]
        by_cases h1 : k ∈ ws1.map (·.1)
        · rw [notW (w3 k h1), Option.none_or]
          obtain ⟨b1, hb1⟩ := mget_ne (m := ws1.reverse) (k := k) (by simpa using h1)
          rw [hb1]
          simp only [Option.some_or, Option.map_some, Option.none_or]
          rw [killB_eq (hitsB_apart fun j hj hh => c7 j hh (hb3.rf_ws hb1 j hj))]
        · rw [notW h1, Option.none_or, Option.none_or]
          cases hm : mget ws2.reverse k with
          | some b2 =>
            simp only [Option.some_or, Option.map_some]
            rw [killB_eq (hitsB_apart fun j hj hh => c5 j hh (hi3.rf_ws hm j hj))]
          | none =>
            simp only [Option.none_or, Option.map_map]
            rcases one with rfl | rfl
            · have : Blk.kill [] = id := funext blk_kill_nil
              rw [this]; rfl
            · have : Blk.kill [] = id := funext blk_kill_nil
              rw [this]; rfl

/-- An operation that waits for none of those before it may go first. -/
theorem Run.first : ∀ {pre : List Nat} {i : Nat} {post : List Nat} {s : St} {tp : List FP} {fi : FP} {tq : List FP} {s' : St}, tp.length = pre.length → Run E ops (pre ++ i :: post) s (tp ++ fi :: tq) s' → (∀ f ∈ tp, noHit ops f fi = true) →
    Run E ops (i :: (pre ++ post)) s (fi :: (tp ++ tq)) s'
  | [], i, post, s, tp, fi, tq, s', hl, hr, _ => by
    cases tp with
    | nil => exact hr
    | cons f tp => simp at hl
  | b :: pre, i, post, s, tp, fi, tq, s', hl, hr, hno => by
    cases tp with
    | nil => simp at hl
    | cons fb tp =>
      obtain ⟨ob, s1, wb, f1, tr1, hb1, hb2, hb3, hb4, hrest⟩ := hr
      simp only [List.cons_append, List.cons.injEq] at hb4
      obtain ⟨rfl, rfl⟩ := hb4
      have ih := Run.first (pre := pre) (by simpa using hl) hrest fun f hf => hno f (by simp [hf])
      exact Run.swap ⟨ob, s1, wb, fb, _, hb1, hb2, hb3, rfl, ih⟩ (hno fb (by simp))
theorem run_of_steps : ∀ (r : List Oper) (k : Nat) (s : St) (tr : List FP) (s' : St), (∀ j, r[j]? = ops[k + j]?) → (stepsD E ops r s tr).val = some s' →
    ∃ tq, Run E ops (List.range' k r.length) s tq s' ∧ tq.length = r.length ∧ chkAll ops (tq.reverse ++ tr) = true ∧ backOK 0 ops = true
  | [], k, s, tr, s', hr, hs => by
    rw [stepsD] at hs
    split at hs
    · rename_i hc
      rw [T.ret_some] at hs
      subst hs
      simp only [Bool.and_eq_true] at hc
      exact ⟨[], ⟨rfl, Eqv.refl _⟩, rfl, by simpa using hc.1, hc.2⟩
    · rw [T.fail_some] at hs; exact hs.elim
  | o :: r, k, s, tr, s', hr, hs => by
    rw [stepsD, T.bind_some] at hs
    obtain ⟨⟨s1, wr⟩, h1, h2⟩ := hs
    obtain ⟨tq, k1, k2, k3, k4⟩ := run_of_steps r (k + 1) s1 _ s' (fun j => by have := hr (j + 1); rw [List.getElem?_cons_succ] at this; rw [this]; congr 1; omega) h2
    refine ⟨fpOf ops s o wr s1 :: tq, ?_, by simp [k2], by simpa using k3, k4⟩
    rw [List.length_cons, List.range'_succ]
    exact ⟨o, s1, wr, _, tq, by have := hr 0; simpa using this.symm, h1, fpOf_ok wr s1 h1, rfl, k1⟩
theorem chkOne_spec {f : FP} : ∀ {r : List FP}, chkOne ops f r = true → ∀ (b : Nat) (g : FP), r.reverse[b]? = some g → edge b f.o = true ∨ noHit ops g f = true
  | [], _, b, g, hb => by simp at hb
  | g0 :: r, h, b, g, hb => by
    rw [List.reverse_cons, List.getElem?_append] at hb
    simp only [chkOne] at h
    split at hb
    · split at h
      · exact chkOne_spec h b g hb
      · split at h
        · exact chkOne_spec h b g hb
        · cases h
    · rename_i hlt
      have hbl : b = r.length := by have := (List.getElem?_eq_some_iff.1 hb).1; simp at this hlt; omega
      subst hbl
      simp at hb
      subst hb
      split at h
      · exact .inl ‹_›
      · split at h
        · exact .inr ‹_›
        · cases h
theorem chkAll_spec : ∀ {l : List FP}, chkAll ops l = true → ∀ (b i : Nat) (fb fi : FP), b < i → l.reverse[b]? = some fb → l.reverse[i]? = some fi → edge b fi.o = true ∨ noHit ops fb fi = true
  | [], _, b, i, fb, fi, _, hb, _ => by simp at hb
  | f :: r, h, b, i, fb, fi, hlt, hb, hi => by
    simp only [chkAll] at h
    split at h
    · rename_i h1
      rw [List.reverse_cons, List.getElem?_append] at hb hi
      split at hi
      · rw [if_pos (by omega)] at hb
        exact chkAll_spec h b i fb fi hlt hb hi
      · rename_i hil
        have hie : i = r.length := by have := (List.getElem?_eq_some_iff.1 hi).1; simp at this hil; omega
        subst hie
        simp at hi
        subst hi
        rw [if_pos (by simpa using hlt)] at hb
        exact chkOne_spec h1 b fb hb
    · cases h
/-- The operations that are not done yet, in the text's order. -/
def left (listed : Array Bool) (n : Nat) : List Nat := (List.range n).filter fun i => !listed.getD i true
theorem edge_after {o : Oper} {j : Nat} (he : edge j o = true) : ∃ e ∈ o.after, e.on = j ∧ Region.binds .any e = true := by
  unfold edge at he
  rw [List.any_eq_true] at he
  obtain ⟨e, h1, h2⟩ := he
  simp only [Bool.and_eq_true] at h2
  refine ⟨e, by simpa using h1, beq_true.1 h2.1, ?_⟩
  unfold Region.binds
  have := h2.2
  split at this <;> simp_all
theorem backOK_spec : ∀ {r : List Oper} {k : Nat}, backOK k r = true → ∀ (j : Nat) (o : Oper), r[j]? = some o → ∀ e ∈ o.after, Region.binds .any e = true → e.on < k + j
  | [], k, _, j, o, hj => by simp at hj
  | o0 :: r, k, h, j, o, hj => by
    simp only [backOK] at h
    split at h
    · rename_i hall
      cases j with
      | zero =>
        simp at hj
        subst hj
        intro e he hb
        have := List.all_eq_true.1 hall e (by simpa using he)
        unfold Region.binds at hb
        split at this <;> simp_all
      | succ j =>
        simp at hj
        intro e he hb
        have := backOK_spec h j o hj e he hb
        omega
    · cases h
theorem mem_left {listed : Array Bool} {n i : Nat} : i ∈ left listed n ↔ i < n ∧ listed.getD i true = false := by
  unfold left; rw [List.mem_filter, List.mem_range, Bool.not_eq_true']
theorem left_set {listed : Array Bool} {n i : Nat} (hs : listed.size = n) (hi : i < n) : left (listed.setIfInBounds i true) n = (left listed n).filter fun j => decide (j ≠ i) := by
  unfold left
  rw [List.filter_filter]
  refine List.filter_congr fun j hj => ?_
  have hj : j < n := by simpa using hj
  by_cases e : j = i
  · subst e
    simp [Array.getD_eq_getD_getElem?, Array.getElem?_setIfInBounds, hs, hi]
  · simp [Array.getD_eq_getD_getElem?, Array.getElem?_setIfInBounds, Ne.symm e, e]
theorem draw_any (ok : EnvOK P E) {opa : Array Oper} (hd : DstOK N opa) (F : Nat → FP) {sF : St}
    (hF : ∀ i o, opa[i]? = some o → (F i).o = o) (hpair : ∀ b i, b < i → i < opa.size → edge b (F i).o = true ∨ noHit opa.toList (F b) (F i) = true) (hback : backOK 0 opa.toList = true) {Q : Exit → Act → World → Prop} (hQ : ∀ a' w', RelE E B N w0 S0 β0 sF a' w' → Q .normal a' w') :
    ∀ (fuel : Nat) (listed : Array Bool) (s : St) (a : Act) (w : World), listed.size = opa.size → (left listed opa.size).length ≤ fuel → RelE E B N w0 S0 β0 s a w → Run E opa.toList (left listed opa.size) s ((left listed opa.size).map F) sF → wpAny P .any opa Q fuel listed a w := by
  intro fuel
  induction fuel with
  | zero =>
    intro listed s a w hsz hlen rel hrun
    have hnil : left listed opa.size = [] := List.eq_nil_of_length_eq_zero (by omega)
    rw [hnil] at hrun
    refine ⟨?_, hQ a w (by obtain ⟨S, β, r⟩ := rel; exact ⟨S, β, r.eqv hrun.2⟩)⟩
    rw [List.eq_nil_iff_forall_not_mem]
    intro i hi
    obtain ⟨h1, o, h2, _⟩ := mem_ready.1 hi
    have : i ∈ left listed opa.size := mem_left.2 ⟨(Array.getElem?_eq_some_iff.1 h2).1, h1⟩
    rw [hnil] at this
    cases this
  | succ fuel ih =>
    intro listed s a w hsz hlen rel hrun
    refine ⟨fun hready => ?_, fun i hi => ?_⟩
    · -- nothing is ready: nothing is left
      have hnil : left listed opa.size = [] := by
        cases hl : left listed opa.size with
        | nil => rfl
        | cons i0 r =>
          exfalso
          have hmem : i0 ∈ left listed opa.size := by rw [hl]; simp
          have hmem' := mem_left.1 hmem
          have hsorted : (left listed opa.size).Pairwise (· < ·) := (List.pairwise_lt_range (n := opa.size)).filter _
          rw [hl] at hsorted
          have ho : opa[i0]? = some opa[i0] := Array.getElem?_eq_getElem hmem'.1
          have : i0 ∈ Region.ready .any opa listed := by
            refine mem_ready.2 ⟨hmem'.2, _, ho, fun e he hb => ?_⟩
            have hlt := backOK_spec hback i0 _ (by simp) e he hb
            simp only [Nat.zero_add] at hlt
            -- e.on is listed: else it would be left, before i0
            by_cases hle : listed.getD e.on true = false
            · have hon : e.on ∈ left listed opa.size := mem_left.2 ⟨by omega, hle⟩
              rw [hl] at hon
              rcases List.mem_cons.1 hon with h | h
              · omega
              · have := (List.pairwise_cons.1 hsorted).1 _ h; omega
            · have hin : e.on < listed.size := by omega
              simp only [Array.getD_eq_getD_getElem?, Array.getElem?_eq_getElem hin, Option.getD_some] at hle ⊢
              simpa using hle
          rw [hready] at this
          cases this
      rw [hnil] at hrun
      obtain ⟨S, β, r⟩ := rel
      exact hQ a w ⟨S, β, r.eqv hrun.2⟩
    · obtain ⟨h1, o, h2, h3⟩ := mem_ready.1 hi
      have hin : i < opa.size := (Array.getElem?_eq_some_iff.1 h2).1
      have hmem : i ∈ left listed opa.size := mem_left.2 ⟨hin, h1⟩
      have hsorted : (left listed opa.size).Pairwise (· < ·) := (List.pairwise_lt_range (n := opa.size)).filter _
      obtain ⟨pre, post, hsplit⟩ := List.append_of_mem hmem
      rw [hsplit] at hsorted
      have hpre : ∀ b ∈ pre, b < i := fun b hb => (List.pairwise_append.1 hsorted).2.2 b hb i (by simp)
      have hpost : ∀ b ∈ post, i < b := fun b hb => (List.pairwise_cons.1 (List.pairwise_append.1 hsorted).2.1).1 b hb
      have hset : left (listed.setIfInBounds i true) opa.size = pre ++ post := by
        rw [left_set hsz hin, hsplit]
        simp only [List.filter_append, List.filter_cons, ne_eq, not_true_eq_false, decide_false, Bool.false_eq_true, if_false]
        congr 1
        · exact List.filter_eq_self.2 fun b hb => by have := hpre b hb; simp; omega
        · exact List.filter_eq_self.2 fun b hb => by have := hpost b hb; simp; omega
      rw [hsplit, List.map_append, List.map_cons] at hrun
      have hno : ∀ f ∈ pre.map F, noHit opa.toList f (F i) = true := by
        intro f hf
        obtain ⟨b, hb, rfl⟩ := List.mem_map.1 hf
        rcases hpair b i (hpre b hb) hin with he | he
        · exfalso
          rw [hF i o h2] at he
          obtain ⟨e, e1, e2, e3⟩ := edge_after he
          have := h3 e e1 e3
          rw [e2] at this
          have hbl : b ∈ left listed opa.size := by rw [hsplit]; simp [hb]
          have hbl := mem_left.1 hbl
          have hbin : b < listed.size := by omega
          simp only [Array.getD_eq_getD_getElem?, Array.getElem?_eq_getElem hbin, Option.getD_some] at this hbl
          rw [hbl.2] at this
          cases this
        · exact he
      obtain ⟨o', s1, wr, f, tr', r1, r2, r3, r4, r5⟩ := Run.first (by simp) hrun hno
      have ho' : o' = o := by
        have : opa[i]? = some o' := by simpa using r1
        rw [h2] at this
        cases this; rfl
      subst ho'
      simp only [List.cons.injEq] at r4
      obtain ⟨_, rfl⟩ := r4
      obtain ⟨S, β, rel'⟩ := rel
      refine wpOp_of h2 (stepG_sound ok rel' (fun d hdd => hd o' (by simpa using Array.mem_of_getElem? h2) d hdd) (fun j d hj => hd.at hj) r2) fun a' w' rel1 => ?_
      refine ih _ s1 a' w' (by simpa using hsz) ?_ rel1 ?_
      · rw [hset]
        have := hlen
        rw [hsplit] at this
        simp only [List.length_append, List.length_cons] at this ⊢
        omega
      · rw [hset, List.map_append]
        exact r5
theorem draw_sound (ok : EnvOK P E) {opa : Array Oper} (hd : DstOK N opa) (hm : P.follows .mixedOrders = true) {id : Nat} {Q : Exit → Act → World → Prop} (rel : RelE E B N w0 S0 β0 s a w) (hs : (stepsD E opa.toList opa.toList s []).val = some s') (hQ : ∀ a' w', RelE E B N w0 S0 β0 s' a' w' → Q .normal a' w') :
    (Code.region id opa true).wp P Q a w := by
  obtain ⟨tq, k1, k2, k3, k4⟩ := run_of_steps opa.toList 0 s [] s' (fun j => by simp) hs
  simp only [List.append_nil, Array.length_toList] at k2 k3 k1
  refine wp_region_any hm ?_
  have hleft : left (Array.replicate opa.size false) opa.size = List.range opa.size := by
    unfold left
    refine List.filter_eq_self.2 fun i hi => ?_
    have hi : i < opa.size := by simpa using hi
    simp [Array.getD_eq_getD_getElem?, Array.getElem?_replicate, hi]
  have htq : (List.range opa.size).map (fun i => (tq[i]?).getD ⟨default, [], [], [], none, [], [], [], false, [], [], []⟩) = tq := by
    refine List.ext_getElem? fun i => ?_
    by_cases hi : i < opa.size
    · simp [List.getElem?_range hi, List.getElem?_eq_getElem (show i < tq.length by omega)]
    · rw [List.getElem?_eq_none (by simp; omega), List.getElem?_eq_none (by omega)]
  have rel' : RelE E B N w0 S0 β0 s a { w with drawn := w.drawn + 1 } := by
    obtain ⟨S, β, r⟩ := rel
    have g : Gr B w S β w.drew S β := gr_drew B w S β
    exact ⟨S, β, r.inv.drew, fun n => g.rv (r.tok n), r.gd, r.below.trans g.below, r.sub, r.news, r.fix, r.size, r.defers⟩
  refine draw_any ok hd (fun i => (tq[i]?).getD ⟨default, [], [], [], none, [], [], [], false, [], [], []⟩) ?_ ?_ k4 hQ opa.size _ s a _ (by simp) (by rw [hleft]; simp) rel' ?_
  · -- each footprint is of its operation
    have key : ∀ (l : List Nat) (s : St) (tr : List FP) (s' : St), Run E opa.toList l s tr s' → ∀ (j i : Nat), l[j]? = some i → ∀ o, opa[i]? = some o → ∃ f, tr[j]? = some f ∧ f.o = o := by
      intro l
      induction l with
      | nil => intro s tr s' _ j i hj; simp at hj
      | cons i0 l ih =>
        intro s tr s' hr j i hj o ho
        obtain ⟨o', s1, wr, f, tr', r1, r2, r3, rfl, r5⟩ := hr
        cases j with
        | zero =>
          simp at hj
          subst hj
          have : o' = o := by
            have : opa[i0]? = some o' := by simpa using r1
            rw [ho] at this; cases this; rfl
          exact ⟨f, rfl, by rw [r3.o, this]⟩
        | succ j => simpa using ih s1 tr' s' r5 j i (by simpa using hj) o ho
    intro i o ho
    have hi : i < opa.size := (Array.getElem?_eq_some_iff.1 ho).1
    obtain ⟨f, h1, h2⟩ := key _ _ _ _ k1 i i (by rw [← List.range_eq_range', List.getElem?_range hi]) o ho
    simp only [h1, Option.getD_some]
    exact h2
  · intro b i hlt hi
    have hb' : tq[b]? = some tq[b] := List.getElem?_eq_getElem (by omega)
    have hi' : tq[i]? = some tq[i] := List.getElem?_eq_getElem (by omega)
    simp only [hb', hi', Option.getD_some]
    exact chkAll_spec k3 b i _ _ hlt (by rw [List.reverse_reverse]; exact hb') (by rw [List.reverse_reverse]; exact hi')
  · rw [hleft, htq, List.range_eq_range']
    exact k1
end

end

end Go.Proofs.YtgkjfochkhiojaaDoor.M
