/- What is proved here: The machine is sound: calls, effects and single steps (no statement of the seat). -/
import Derived.Test.YtgkjfochkhiojaaDoorM2
namespace Go.Proofs.YtgkjfochkhiojaaDoor.M
open Go Go.RowKit
set_option linter.unusedVariables false
set_option linter.unusedSimpArgs false

section

variable {P : Program} {E : Env}

def noKeys : Nat → Option BI := fun _ => none
theorem blw_of {n : Nat} {B : Nat → Prop} {w w' : World} (h : Below n w w') (hB : ∀ b, B b → b < n) : Blw B w w' := ⟨h.os, h.tape, h.output, h.size, fun k hk => h.block k (hB k hk)⟩
theorem Blw.below {n : Nat} {w w' : World} (h : Blw (fun b => b < n) w w') : Below n w w' := ⟨h.os, h.tape, h.output, h.size, h.block⟩
/-- What a call of f does with these arguments. -/
def SpecP (P : Program) (G : Nat → Option GR) (f : FuncId) (args : List AV) (r : AV) (H : Heap) : Prop :=
  ∀ (w : World) (S : Nat → Prop) (cargs : List Value), (∀ b, S b → b < w.heap.size) → (∀ g r, G g = some r → GlobAt w S g r) → RL (RV w S noKeys) args cargs →
    Calls P f cargs.toArray w fun e w' => ∃ v S' β', e = .returned v ∧ Below w.heap.size w w' ∧ (∀ b, S b → S' b) ∧ (∀ b, S' b → S b ∨ w.heap.size ≤ b) ∧
      (∀ b, S' b → b < w'.heap.size) ∧
      (∀ k k' x x', β' k = some x → β' k' = some x' → x.real = true → x'.real = true → x.b = x'.b → k = k') ∧
      (∀ k x, β' k = some x → x.real = true → w.heap.size ≤ x.b ∧ x.b < w'.heap.size ∧ ¬ S' x.b) ∧
      (∀ k x, β' k = some x → ∃ bl, mget H k = some bl ∧ bl.box = false ∧ (x.real = true → BlkOK w' S' noKeys bl x) ∧ (x.real = false → bl.rows = [])) ∧
      (∀ k bl, mget H k = some bl → ∃ x, β' k = some x) ∧ RV w' S' β' r v
/-- Blocks that were there, and are not the call's. -/
def ownFree (w : World) (β : Nat → Option BI) (b : Nat) : Prop := b < w.heap.size ∧ ¬ ∃ k x, β k = some x ∧ x.real = true ∧ x.b = b
/-- What a call of f does that is handed memory: the blocks hin become hout; but for mv they stay where they are. -/
def SpecH (P : Program) (G : Nat → Option GR) (f : FuncId) (args : List AV) (hin : Heap) (r : AV) (hout : Heap) (mv : List Nat) : Prop :=
  ∀ (w : World) (S : Nat → Prop) (β : Nat → Option BI) (cargs : List Value), InvG G (ownFree w β) w S β hin → RL (RV w S β) args cargs →
    Calls P f cargs.toArray w fun e w' => ∃ v S' β', e = .returned v ∧ Blw (ownFree w β) w w' ∧ (∀ b, S b → S' b) ∧ (∀ b, S' b → S b ∨ ¬ ownFree w β b) ∧
      InvG G (ownFree w β) w' S' β' hout ∧ (∀ k x, inK k → k ∉ mv → β' k = some x → β k = some x) ∧ RV w' S' β' r v
def flat0 : AV → Bool
  | .v _ => true
  | .unk => true
  | _ => false
def flat1 : AV → Bool
  | .agg cs => cs.all flat0
  | a => flat0 a
def flat2 : AV → Bool
  | .tup cs => cs.all flat1
  | a => flat1 a
/-- A result that shares no memory with what is known. -/
def frs0 : AV → Bool
  | .own _ => true
  | a => flat0 a
def frs1 : AV → Bool
  | .agg cs => cs.all frs0
  | a => frs0 a
def frs2 : AV → Bool
  | .tup cs => cs.all frs1
  | a => frs1 a
def frsH (H : Heap) : Bool := H.all fun p => p.2.rows.all fun r => r.all flat0
structure FnOK (P : Program) (E : Env) : Prop where
  spec : ∀ f args r H, (E.fn f args).val = some (r, H) → SpecP P E.glob f args r H
  flat : ∀ f args r H, (E.fn f args).val = some (r, H) → E.flat f = true → frsH H = true ∧ frs2 r = true

section
variable {B : Nat → Prop} {o : Oper} {a : Act} {w w' : World} {S S' : Nat → Prop} {β β' : Nat → Option BI} {h : Heap} {av : AV} {v : Value}
theorem flat0_rc {x : AV} (hf : flat0 x = true) (hr : RC w S β x v) : RC w' S' β' x v := by
  cases x <;> first | (simp [flat0] at hf; done) | skip
  · exact R0.rc (.unk hr.one)
  · cases (show R0 w S (.v _) v from hr) with | v h => exact R0.rc (.v h)
theorem flat1_rt {x : AV} (hf : flat1 x = true) (hr : RT w S β x v) : RT w' S' β' x v := by
  cases x
  case agg cs =>
    obtain ⟨vs, h1, h2⟩ := hr
    exact ⟨vs, h1, h2.imp fun b hb u hu => flat0_rc (List.all_eq_true.1 hf b hb) hu⟩
  case unk => trivial
  case v y => exact flat0_rc (w := w) (S := S) (β := β) (β' := β') (x := .v y) hf hr
  all_goals (simp [flat1, flat0] at hf)
theorem flat2_rv {x : AV} (hf : flat2 x = true) (hr : RV w S β x v) : RV w' S' β' x v := by
  cases x
  case tup cs =>
    obtain ⟨vs, h1, h2⟩ := hr
    exact ⟨vs, h1, h2.imp fun b hb u hu => flat1_rt (List.all_eq_true.1 hf b hb) hu⟩
  case agg cs => exact flat1_rt (w := w) (S := S) (β := β) (β' := β') (x := .agg cs) hf hr
  case unk => trivial
  case v y => exact flat1_rt (w := w) (S := S) (β := β) (β' := β') (x := .v y) hf hr
  all_goals (simp [flat2, flat1, flat0] at hf)
theorem frs0_rc {x : AV} (hf : frs0 x = true) (hr : RC w S β x v) : RC w S' β x v := by
  cases x <;> first | (simp [frs0, flat0] at hf; done) | skip
  · exact R0.rc (.unk hr.one)
  · cases (show R0 w S (.v _) v from hr) with | v h => exact R0.rc (.v h)
  · exact hr
theorem frs1_rt {x : AV} (hf : frs1 x = true) (hr : RT w S β x v) : RT w S' β x v := by
  cases x
  case agg cs =>
    obtain ⟨vs, h1, h2⟩ := hr
    exact ⟨vs, h1, h2.imp fun b hb u hu => frs0_rc (List.all_eq_true.1 hf b hb) hu⟩
  case unk => trivial
  case v y => exact frs0_rc (w := w) (S := S) (S' := S') (β := β) (x := .v y) hf hr
  case own k => exact frs0_rc (w := w) (S := S) (S' := S') (β := β) (x := .own k) hf hr
  all_goals (simp [frs1, frs0, flat0] at hf)
theorem frs2_rv {x : AV} (hf : frs2 x = true) (hr : RV w S β x v) : RV w S' β x v := by
  cases x
  case tup cs =>
    obtain ⟨vs, h1, h2⟩ := hr
    exact ⟨vs, h1, h2.imp fun b hb u hu => frs1_rt (List.all_eq_true.1 hf b hb) hu⟩
  case agg cs => exact frs1_rt (w := w) (S := S) (S' := S') (β := β) (x := .agg cs) hf hr
  case unk => trivial
  case v y => exact frs1_rt (w := w) (S := S) (S' := S') (β := β) (x := .v y) hf hr
  case own k => exact frs1_rt (w := w) (S := S) (S' := S') (β := β) (x := .own k) hf hr
  all_goals (simp [frs2, frs1, frs0, flat0] at hf)
theorem map_same {g : AV → AV} : ∀ {l : List AV}, (∀ y ∈ l, g y = y) → l.map g = l
  | [], _ => rfl
  | a :: l, h => by rw [List.map_cons, h a (by simp), map_same fun y hy => h y (by simp [hy])]
theorem ren0_flat {f : Nat → Nat} {x : AV} (hx : flat0 x = true) : ren0 f x = x := by cases x <;> first | rfl | (simp [flat0] at hx)
theorem renC_flat {f : Nat → Nat} {x : AV} (hx : flat0 x = true) : renC f x = x := by cases x <;> first | rfl | (simp [flat0] at hx)
theorem ren1_flat {f : Nat → Nat} {x : AV} (hx : flat1 x = true) : ren1 f x = x := by
  cases x <;> first | rfl | (simp [flat1, flat0] at hx; done) | skip
  rename_i cs
  simp only [ren1]
  rw [map_same fun y hy => renC_flat (f := f) (List.all_eq_true.1 (show cs.all flat0 = true from hx) y hy)]
theorem ren2_flat {f : Nat → Nat} {x : AV} (hx : flat2 x = true) : ren2 f x = x := by
  cases x <;> first | rfl | (simp [flat2, flat1, flat0] at hx; done) | skip
  · exact ren1_flat (x := .agg _) hx
  · rename_i cs
    simp only [ren2]
    rw [map_same fun y hy => ren1_flat (f := f) (List.all_eq_true.1 (show cs.all flat1 = true from hx) y hy)]
/-- The blocks that are known, own ones too. -/
def plusOwn (S : Nat → Prop) (β : Nat → Option BI) : Nat → Prop := fun b => S b ∨ ∃ k x, β k = some x ∧ x.real = true ∧ x.b = b
theorem own_sl (inv : Inv E B w S β h) {k : Nat} {bl : Blk} (hbox : bl.box = false) (hk : mget h k = some bl) (hv : RP w S β (.own k) v) : R0 w (plusOwn S β) (.sl bl.rows) v := by
  obtain ⟨X, hX, h1, h2⟩ := hv
  obtain ⟨bl', hb, h3, h4⟩ := inv.dom k X hX
  rw [hk] at hb
  cases hb
  cases hr : X.real
  · obtain ⟨A, rfl⟩ := h2 hr
    rw [(h4 hr).1]
    exact R0.sl (rows := []) (size := 0) (b := 0) (off := 0) (vals := fun _ _ => .nilFunc) (by simp) (by simp) (by simp) (by simp) (by simp) (by simp)
  · obtain ⟨cs, ty, c1, c2, c3, c4, c5, c6, c7, c8⟩ := h3 hr
    rw [h1 hr, ← c3]
    refine R0.sl (size := X.size) (b := X.b) (off := 0) (vals := fun i j => (cs[i * X.size + j]?).getD .nilFunc) (by omega) c5 (fun _ => ⟨rfl, .inr ⟨k, X, hX, hr, rfl⟩⟩) (fun i row hi => (c8 i row hi).1) (fun i j row x hi hj => ?_) (fun i j row x hi hj => ?_)
    · obtain ⟨u, hu, _⟩ := (c8 i row hi).2 j x hj
      simp [World.cell?, c1, hu]
    · obtain ⟨u, hu, hru⟩ := (c8 i row hi).2 j x hj
      rw [hbox] at hru
      simp only [hu, Option.getD_some]
      exact R0.mono (fun _ _ => rfl) (fun b hb => .inl hb) (by simpa using hru)
/-- A window's part of an own slice. -/
theorem win_cut {S1 : Nat → Prop} (hS : ∀ b, S b → S1 b) {bl : Blk} (hbox : bl.box = false) {X : BI} (hS1 : X.real = true → S1 X.b) (hb : X.real = true → BlkOK w S β bl X) {k lo n : Nat} {A : Option Addr} {c : Nat} (hc : n ≤ c) (hm : c ≤ 9223372036854775807)
    (hn : n ≠ 0 → X.real = true ∧ A = some ⟨X.b, lo * X.size, none⟩ ∧ lo + n ≤ X.len) : R0 w S1 (.sl ((bl.rows.drop lo).take n)) (.slice A n c) := by
  by_cases h0 : n = 0
  · subst h0
    rw [List.take_zero]
    exact R0.sl (rows := []) (size := 0) (b := 0) (off := 0) (vals := fun _ _ => .nilFunc) (by simp) hm (by simp) (by simp) (by simp) (by simp)
  · obtain ⟨hr, rfl, hle⟩ := hn h0
    obtain ⟨cs, ty, c1, c2, c3, c4, c5, c6, c7, c8⟩ := hb hr
    have hlen : ((bl.rows.drop lo).take n).length = n := by rw [List.length_take, List.length_drop]; omega
    have hat : ∀ (i : Nat) (row : Row), ((bl.rows.drop lo).take n)[i]? = some row → bl.rows[lo + i]? = some row := by
      intro i row hi
      have hlt : i < n := by have := (List.getElem?_eq_some_iff.1 hi).1; omega
      rw [List.getElem?_take_of_lt hlt, List.getElem?_drop] at hi
      exact hi
    conv => arg 4; arg 2; rw [← hlen]
    refine R0.sl (size := X.size) (b := X.b) (off := lo * X.size) (vals := fun i j => (cs[(lo + i) * X.size + j]?).getD .nilFunc) (by omega) hm (fun _ => ⟨rfl, hS1 hr⟩) (fun i row hi => (c8 _ row (hat i row hi)).1) (fun i j row x hi hj => ?_) (fun i j row x hi hj => ?_)
    · obtain ⟨u, hu, _⟩ := (c8 _ row (hat i row hi)).2 j x hj
      have e : lo * X.size + i * X.size + j = (lo + i) * X.size + j := by rw [Nat.add_mul]
      simp [World.cell?, c1, hu, e]
    · obtain ⟨u, hu, hru⟩ := (c8 _ row (hat i row hi)).2 j x hj
      rw [hbox] at hru
      simp only [hu, Option.getD_some]
      exact R0.mono (fun _ _ => rfl) hS (by simpa using hru)
theorem win_sl (inv : Inv E B w S β h) {k lo n : Nat} {bl : Blk} (hbox : bl.box = false) (hk : mget h k = some bl) (hv : RP w S β (.win k lo n) v) : R0 w (plusOwn S β) (.sl ((bl.rows.drop lo).take n)) v := by
  obtain ⟨X, hX, A, c, rfl, hc, hm, hn⟩ := hv
  obtain ⟨bl', hb, h3, h4⟩ := inv.dom k X hX
  rw [hk] at hb
  cases hb
  exact win_cut (k := k) (fun b hb => .inl hb) hbox (fun hr => .inr ⟨k, X, hX, hr, rfl⟩) h3 hc hm hn
theorem win_view (inv : Inv E B w S β h) {k lo n : Nat} (hr : RP w S β (.win k lo n) v) : R0 w (plusOwn S β) (view0 (mget h) (.win k lo n)) v := by
  have h1 := hr.one
  simp only [view0]
  split
  · rename_i bl hbl
    split
    · exact .unk h1
    · exact win_sl inv ‹_› hbl hr
  · exact .unk h1
theorem own_view (inv : Inv E B w S β h) {k : Nat} (hr : RP w S β (.own k) v) : R0 w (plusOwn S β) (view0 (mget h) (.own k)) v := by
  have h1 := hr.one
  simp only [view0]
  split
  · rename_i bl hbl
    split
    · exact .unk h1
    · exact own_sl inv ‹_› hbl hr
  · exact .unk h1
/-- S1 is enough to see what x names. -/
def ow : AV → Bool
  | .own _ => true
  | .win _ _ _ => true
  | _ => false
theorem ow_view (inv : Inv E B w S β h) {y : AV} (hy : ow y = true) (hr : RP w S β y v) : R0 w (plusOwn S β) (view0 (mget h) y) v := by
  cases y <;> first | (simp [ow] at hy; done) | exact own_view inv hr | exact win_view inv hr
structure Sees (w : World) (S : Nat → Prop) (β : Nat → Option BI) (hg : Nat → Option Blk) (S1 : Nat → Prop) (ks : List Nat) : Prop where
  own : ∀ y u, ow y = true → (∀ k ∈ refs0 y, k ∈ ks) → RP w S β y u → R0 w S1 (view0 hg y) u
  ptr : ∀ k i off u, k ∈ ks → RP w S β (.ptr k i off) u → RP w S1 noKeys (viewP hg (.ptr k i off)) u
theorem Sees.sub {w : World} {S : Nat → Prop} {β : Nat → Option BI} {hg : Nat → Option Blk} {S1 : Nat → Prop} {ks ks' : List Nat} (hs : Sees w S β hg S1 ks) (hk : ∀ k ∈ ks', k ∈ ks) : Sees w S β hg S1 ks' :=
  ⟨fun y u hy h => hs.own y u hy (fun k hkk => hk k (h k hkk)), fun k i off u h => hs.ptr k i off u (hk k h)⟩
variable {hg : Nat → Option Blk} {S1 : Nat → Prop}
theorem view0_rep (hS : ∀ b, S b → S1 b) {x : AV} (hown : ∀ y u, ow y = true → (∀ k ∈ refs0 y, k ∈ refsC x) → RP w S β y u → R0 w S1 (view0 hg y) u) (hr : RC w S β x v) : R0 w S1 (view0 hg x) v := by
  have h1 := hr.one
  cases x
  case own k => exact hown (.own k) v rfl (by simp [refsC, refs0]) hr
  case win k lo n => exact hown (.win k lo n) v rfl (by simp [refsC, refs0]) hr
  case e0 =>
    obtain ⟨A, rfl⟩ := hr
    exact R0.sl (rows := []) (size := 0) (b := 0) (off := 0) (vals := fun _ _ => .nilFunc) (by simp) (by simp) (by simp) (by simp) (by simp) (by simp)
  case v y => exact R0.mono (fun _ _ => rfl) hS (show R0 w S (.v y) v from hr)
  case sl rows => exact R0.mono (fun _ _ => rfl) hS (show R0 w S (.sl rows) v from hr)
  case nz b rows => exact R0.mono (fun _ _ => rfl) hS hr.1
  case fn f cs =>
    obtain ⟨vs, rfl, h2⟩ := hr
    cases cs
    · cases vs
      · exact .fn f
      · exact h2.elim
    · exact .unk rfl
  all_goals exact .unk h1
theorem viewP_rep (hS : ∀ b, S b → S1 b) {x : AV} (hown : Sees w S β hg S1 (refs0 x)) (hr : RP w S β x v) : RP w S1 noKeys (viewP hg x) v := by
  cases x
  case ptr k i off => exact hown.ptr k i off v (by simp [refs0]) hr
  case pel row off =>
    obtain ⟨b, o, h1, h2⟩ := hr
    exact ⟨b, o, h1, h2.mono (fun _ _ => rfl) hS⟩
  case fn f cs =>
    cases (show R0 w S (.fn f cs) v from hr) with
    | fn => exact R0.rp (.fn f)
  case own k => exact R0.rp (hown.own (.own k) v rfl (by simp [refs0]) hr)
  case win k lo n => exact R0.rp (hown.own (.win k lo n) v rfl (by simp [refs0]) hr)
  all_goals
    have hr' := hr
    rw [← RC_eq (by simp)] at hr'
    refine R0.rp (view0_rep (hg := hg) hS (fun y u hy hk => ?_) hr')
    exfalso
    cases y <;> simp [ow, refsC, refs0] at hy hk
theorem viewC_rep (hS : ∀ b, S b → S1 b) {x : AV} (hown : Sees w S β hg S1 (refsC x)) (hr : RC w S β x v) : RC w S1 noKeys (viewC hg x) v := by
  by_cases hn : ∃ f cs, x = .fn f cs
  · obtain ⟨f, cs, rfl⟩ := hn
    obtain ⟨vs, h1, h2⟩ := hr
    exact ⟨vs, h1, h2.map fun b hb u hu => viewP_rep hS (hown.sub fun k hk => by simp only [refsC, List.mem_flatMap]; exact ⟨b, hb, hk⟩) hu⟩
  · have hn' : ∀ f cs, x ≠ .fn f cs := fun f cs e => hn ⟨f, cs, e⟩
    rw [RC_eq hn'] at hr
    rw [refsC_eq hn'] at hown
    have hv : viewC hg x = viewP hg x := by cases x <;> first | rfl | exact absurd rfl (hn' _ _)
    have hv2 : ∀ f cs, viewP hg x ≠ .fn f cs := by
      intro f cs e
      cases x <;> simp only [viewP] at e
      case fn => exact hn' _ _ rfl
      case ptr k i off =>
        split at e
        · split at e
          · split at e <;> cases e
          · cases e
        · cases e
      case pel => cases e
      case own k =>
        simp only [view0] at e
        split at e
        · split at e <;> cases e
        · cases e
      case win k lo n =>
        simp only [view0] at e
        split at e
        · split at e <;> cases e
        · cases e
      all_goals (simp [view0] at e)
    rw [hv, RC_eq hv2]
    exact viewP_rep hS hown hr
theorem view1_rep (hS : ∀ b, S b → S1 b) {x : AV} (hown : Sees w S β hg S1 (refs1 x)) (hr : RT w S β x v) : RT w S1 noKeys (view1 hg x) v := by
  by_cases hn : ∃ cs, x = .agg cs
  · obtain ⟨cs, rfl⟩ := hn
    obtain ⟨vs, h1, h2⟩ := hr
    exact ⟨vs, h1, h2.map fun b hb u hu => viewC_rep hS (hown.sub fun k hk => by simp only [refs1, List.mem_flatMap]; exact ⟨b, hb, hk⟩) hu⟩
  · by_cases hu : x = .unk
    · subst hu; trivial
    · have hn' : ∀ cs, x ≠ .agg cs := fun cs e => hn ⟨cs, e⟩
      rw [RT_eq hn' hu] at hr
      rw [refs1_eq hn'] at hown
      have hv : view1 hg x = viewC hg x := by cases x <;> first | rfl | exact absurd rfl (hn' _)
      rw [hv]
      exact (viewC_rep hS hown hr).rt
theorem view2_rep (hS : ∀ b, S b → S1 b) {x : AV} (hown : Sees w S β hg S1 (refs2 x)) (hr : RV w S β x v) : RV w S1 noKeys (view2 hg x) v := by
  by_cases hn : ∃ cs, x = .tup cs
  · obtain ⟨cs, rfl⟩ := hn
    obtain ⟨vs, h1, h2⟩ := hr
    exact ⟨vs, h1, h2.map fun b hb u hu => view1_rep hS (hown.sub fun k hk => by simp only [refs2, List.mem_flatMap]; exact ⟨b, hb, hk⟩) hu⟩
  · by_cases hu : ∃ j b want y, x = .gd j b want y
    · obtain ⟨j, b, want, y, rfl⟩ := hu
      trivial
    · have hn' : ∀ cs, x ≠ .tup cs := fun cs e => hn ⟨cs, e⟩
      have hu' : ∀ j b w y, x ≠ .gd j b w y := fun j b w y e => hu ⟨j, b, w, y, e⟩
      rw [RV_eq hn' hu'] at hr
      rw [refs2_eq hn' hu'] at hown
      have hv : view2 hg x = view1 hg x := by cases x <;> first | rfl | exact absurd rfl (hn' _)
      rw [hv]
      exact RT.rv (view1_rep hS hown hr)
theorem sees_own (inv : Inv E B w S β h) (ks : List Nat) : Sees w S β (mget h) (plusOwn S β) ks := by
  refine ⟨fun y u hy _ hr => ow_view inv hy hr, fun k i off u _ hr => ?_⟩
  have h1 := hr.one
  obtain ⟨x, hx, hre, rfl⟩ := hr
  obtain ⟨bl, b1, b2, _⟩ := inv.dom k x hx
  obtain ⟨cs, ty, c1, c2, c3, c4, c5, c6, c7, c8⟩ := b2 hre
  simp only [viewP, b1]
  split
  · rename_i hbx
    split
    · rename_i row hrow
      refine ⟨x.b, i * x.size, rfl, .inr ⟨k, x, hx, hre, rfl⟩, fun j a ha => ?_⟩
      simp only [List.getElem?_map, Option.map_eq_some_iff] at ha
      obtain ⟨a0, ha0, rfl⟩ := ha
      obtain ⟨u, hu, hru⟩ := (c8 i row hrow).2 j a0 ha0
      rw [hbx] at hru
      refine ⟨u, by simp [World.cell?, c1, hu], ?_⟩
      exact view0_rep (fun b hb => .inl hb) (fun y' u' hy' _ hr' => ow_view inv hy' hr') (by simpa using hru)
    · exact R0.rp (.unk h1)
  · exact R0.rp (.unk h1)
theorem sees_nil {w : World} {S : Nat → Prop} {β : Nat → Option BI} {hg : Nat → Option Blk} {S1 : Nat → Prop} : Sees w S β hg S1 [] := ⟨fun y u hy hk => by exfalso; cases y <;> simp [ow, refs0] at hy hk, fun k i off u hk => by simp at hk⟩

/-- The keys of a call's result. -/
def addKeys (β β' : Nat → Option BI) (d : Nat) : Nat → Option BI := fun k => match β k with
  | some x => some x
  | none => if renK d 0 ≤ k ∧ k < renK d 1000 then β' (k - renK d 0) else none
theorem renK_eq (d k : Nat) : renK d k = renK d 0 + k := by simp [renK]
theorem ren0_rp {x : AV} {f : Nat → Nat} (hβ : ∀ k ∈ refs0 x, ∀ y, β' k = some y → β (f k) = some y) (hr : RP w S β' x v) : RP w S β (ren0 f x) v := by
  cases x
  case own k => obtain ⟨y, h1, h2⟩ := hr; exact ⟨y, hβ k (by simp [refs0]) y h1, h2⟩
  case win k lo n => obtain ⟨y, h1, h2⟩ := hr; exact ⟨y, hβ k (by simp [refs0]) y h1, h2⟩
  case ptr k i o => obtain ⟨y, h1, h2⟩ := hr; exact ⟨y, hβ k (by simp [refs0]) y h1, h2⟩
  all_goals exact hr
theorem renC_rc {x : AV} {f : Nat → Nat} (hβ : ∀ k ∈ refsC x, ∀ y, β' k = some y → β (f k) = some y) (hr : RC w S β' x v) : RC w S β (renC f x) v := by
  by_cases hn : ∃ g cs, x = .fn g cs
  · obtain ⟨g, cs, rfl⟩ := hn
    obtain ⟨vs, h1, h2⟩ := hr
    exact ⟨vs, h1, h2.map fun b hb u hu => ren0_rp (fun k hk => hβ k (by simp only [refsC, List.mem_flatMap]; exact ⟨b, hb, hk⟩)) hu⟩
  · have hn' : ∀ g cs, x ≠ .fn g cs := fun g cs e => hn ⟨g, cs, e⟩
    rw [RC_eq hn'] at hr
    rw [refsC_eq hn'] at hβ
    have hv : renC f x = ren0 f x := by cases x <;> first | rfl | exact absurd rfl (hn' _ _)
    have hv2 : ∀ g cs, ren0 f x ≠ .fn g cs := by
      intro g cs e
      cases x <;> first | (simp [ren0] at e; done) | (exact hn' _ _ rfl)
    rw [hv, RC_eq hv2]
    exact ren0_rp hβ hr
theorem ren1_rt {x : AV} {f : Nat → Nat} (hβ : ∀ k ∈ refs1 x, ∀ y, β' k = some y → β (f k) = some y) (hr : RT w S β' x v) : RT w S β (ren1 f x) v := by
  by_cases hn : ∃ cs, x = .agg cs
  · obtain ⟨cs, rfl⟩ := hn
    obtain ⟨vs, h1, h2⟩ := hr
    exact ⟨vs, h1, h2.map fun b hb u hu => renC_rc (fun k hk => hβ k (by simp only [refs1, List.mem_flatMap]; exact ⟨b, hb, hk⟩)) hu⟩
  · have hn' : ∀ cs, x ≠ .agg cs := fun cs e => hn ⟨cs, e⟩
    by_cases hu : x = .unk
    · subst hu; trivial
    · rw [RT_eq hn' hu] at hr
      rw [refs1_eq hn'] at hβ
      have hv : ren1 f x = renC f x := by cases x <;> first | rfl | exact absurd rfl (hn' _)
      rw [hv]
      exact (renC_rc hβ hr).rt
theorem ren2_rv {x : AV} {f : Nat → Nat} (hβ : ∀ k ∈ refs2 x, ∀ y, β' k = some y → β (f k) = some y) (hr : RV w S β' x v) : RV w S β (ren2 f x) v := by
  by_cases hn : ∃ cs, x = .tup cs
  · obtain ⟨cs, rfl⟩ := hn
    obtain ⟨vs, h1, h2⟩ := hr
    exact ⟨vs, h1, h2.map fun b hb u hu => ren1_rt (fun k hk => hβ k (by simp only [refs2, List.mem_flatMap]; exact ⟨b, hb, hk⟩)) hu⟩
  · have hn' : ∀ cs, x ≠ .tup cs := fun cs e => hn ⟨cs, e⟩
    by_cases hg : ∃ j b want y, x = .gd j b want y
    · obtain ⟨j, b, want, y, rfl⟩ := hg
      exact ⟨fun hb => ren1_rt hβ (hr.1 hb), hr.2⟩
    · have hu' : ∀ j b w y, x ≠ .gd j b w y := fun j b w y e => hg ⟨j, b, w, y, e⟩
      rw [RV_eq hn' hu'] at hr
      rw [refs2_eq hn' hu'] at hβ
      have hv : ren2 f x = ren1 f x := by cases x <;> first | rfl | exact absurd rfl (hn' _) | exact absurd rfl (hu' _ _ _ _)
      rw [hv]
      exact RT.rv (ren1_rt hβ hr)
theorem mget_msets {α : Type} : ∀ (ws m : List (Nat × α)) (k : Nat), mget (msets m ws) k = (mget ws.reverse k).or (mget m k)
  | [], m, k => rfl
  | (j, x) :: r, m, k => by
    rw [msets, mget_msets r, mget_mset, List.reverse_cons]
    have : ∀ (l : List (Nat × α)), mget (l ++ [(j, x)]) k = (mget l k).or (if k = j then some x else none) := by
      intro l
      induction l with
      | nil =>
        simp only [List.nil_append, mget]
        cases hb : Nat.beq k j
        · rw [if_neg (beq_false.1 hb)]; rfl
        · rw [if_pos (beq_true.1 hb)]; rfl
      | cons p r ih => obtain ⟨i, y⟩ := p; simp only [List.cons_append, mget]; split <;> simp_all
    rw [this]
    by_cases e : k = j
    · subst e; simp only [if_true]; cases mget r.reverse k <;> rfl
    · simp only [e, if_false, Option.or_none]
theorem mget_none_of {α : Type} : ∀ {m : List (Nat × α)} {k : Nat}, k ∉ m.map (·.1) → mget m k = none
  | [], k, _ => rfl
  | (j, x) :: r, k, h => by
    simp only [List.map_cons, List.mem_cons, not_or] at h
    simp only [mget]
    rw [beq_false.2 h.1]
    exact mget_none_of h.2
theorem mget_append {α : Type} (l m : List (Nat × α)) (k : Nat) : mget (l ++ m) k = (mget l k).or (mget m k) := by
  induction l with
  | nil => rfl
  | cons p r ih => obtain ⟨i, y⟩ := p; simp only [List.cons_append, mget]; split <;> simp_all
theorem keysNodup_cons {p : Nat × Blk} {r : Heap} (h : keysNodup (p :: r) = true) : p.1 ∉ r.map (·.1) ∧ keysNodup r = true := by
  simp only [keysNodup] at h
  split at h
  · cases h
  · exact ⟨elem_false ‹_›, h⟩
theorem mget_reverse : ∀ {m : Heap}, keysNodup m = true → ∀ k, mget m.reverse k = mget m k
  | [], _, k => rfl
  | (j, x) :: r, h, k => by
    obtain ⟨h1, h2⟩ := keysNodup_cons h
    rw [List.reverse_cons, mget_append, mget_reverse h2]
    by_cases e : k = j
    · subst e
      rw [mget_none_of h1]
      simp only [mget]
      rw [beq_true.2 rfl]
      rfl
    · simp only [mget]
      rw [beq_false.2 e]
      cases mget r k <;> rfl
theorem mget_ren {m : Heap} (d k : Nat) : mget (m.map fun q => (renK d q.1, q.2)) (renK d k) = mget m k := by
  induction m with
  | nil => rfl
  | cons p r ih =>
    obtain ⟨j, x⟩ := p
    simp only [List.map_cons, mget]
    by_cases e : k = j
    · subst e; rw [beq_true.2 rfl, beq_true.2 rfl]
    · rw [beq_false.2 e, beq_false.2 (by simp only [renK]; omega)]; exact ih
theorem mget_ren_none {m : Heap} (d : Nat) {k : Nat} (h : k < renK d 0) : mget (m.map fun q => (renK d q.1, q.2)) k = none := by
  refine mget_none_of fun hk => ?_
  simp only [List.map_map, List.mem_map, Function.comp] at hk
  obtain ⟨q, _, rfl⟩ := hk
  simp only [renK] at h; omega
theorem keysNodup_ren (d : Nat) : ∀ {m : Heap}, keysNodup m = true → keysNodup (m.map fun q => (renK d q.1, q.2)) = true
  | [], _ => rfl
  | p :: r, h => by
    obtain ⟨h1, h2⟩ := keysNodup_cons h
    simp only [List.map_cons, keysNodup]
    have : ((r.map fun q => (renK d q.1, q.2)).map (·.1)).elem (renK d p.1) = false := by
      rw [← Bool.not_eq_true]
      intro hh
      have hh := elem_true hh
      simp only [List.map_map, List.mem_map, Function.comp] at hh
      obtain ⟨q, hq, e⟩ := hh
      have : q.1 = p.1 := by simp only [renK] at e; omega
      exact h1 (by rw [← this]; exact List.mem_map_of_mem hq)
    rw [this]
    exact keysNodup_ren d h2
theorem freshAll_spec {hg : Nat → Option Blk} {d : Nat} : ∀ {H : Heap}, freshAll hg d H = true → ∀ p ∈ H, hg (renK d p.1) = none ∧ p.1 < 4
  | p :: r, h, q, hq => by
    simp only [freshAll] at h
    split at h
    · rename_i h4
      split at h
      · rename_i hn
        rcases List.mem_cons.1 hq with rfl | hq
        · exact ⟨hn, by simpa using h4⟩
        · exact freshAll_spec h q hq
      · cases h
    · cases h
  | [], _, q, hq => by simp at hq
theorem mget_mem {α : Type} : ∀ {m : List (Nat × α)} {k : Nat} {x : α}, mget m k = some x → (k, x) ∈ m
  | (j, y) :: r, k, x, h => by
    simp only [mget] at h
    split at h
    · rename_i hb
      cases h
      rw [beq_true.1 hb]; simp
    · exact List.mem_cons_of_mem _ (mget_mem h)

theorem posIn_get : ∀ {ks : List Nat} {k : Nat}, k ∈ ks → ks[posIn ks k]? = some k
  | j :: r, k, h => by
    simp only [posIn]
    split
    · rename_i hb; rw [beq_true.1 hb]; rfl
    · rename_i hb
      rcases List.mem_cons.1 h with rfl | h
      · exact absurd rfl (beq_false.1 hb)
      · simpa using posIn_get h
theorem nodupB_spec : ∀ {ks : List Nat}, nodupB ks = true → ks.Nodup
  | [], _ => List.nodup_nil
  | j :: r, h => by
    simp only [nodupB] at h
    split at h
    · cases h
    · exact List.nodup_cons.2 ⟨elem_false ‹_›, nodupB_spec h⟩
theorem nodup_inj : ∀ {l : List Nat}, l.Nodup → ∀ {i j : Nat} (hi : i < l.length) (hj : j < l.length), l[i] = l[j] → i = j
  | a :: l, hn, 0, 0, _, _, _ => rfl
  | a :: l, hn, 0, j + 1, hi, hj, e => by
    have := (List.nodup_cons.1 hn).1
    simp at e
    exact absurd (e ▸ List.getElem_mem _) this
  | a :: l, hn, i + 1, 0, hi, hj, e => by
    have := (List.nodup_cons.1 hn).1
    simp at e
    exact absurd (e ▸ List.getElem_mem _) this
  | a :: l, hn, i + 1, j + 1, hi, hj, e => by
    have := nodup_inj (List.nodup_cons.1 hn).2 (i := i) (j := j) (by simpa using hi) (by simpa using hj) (by simpa using e)
    omega
/-- A function that has a body. -/
def Here (P : Program) (f : FuncId) : Prop := ∃ fn, P.funcs[f]? = some fn ∧ (fn.name == "runtime.NumGoroutine") = false ∧ fn.body.isNone = false
theorem run_enter {f : FuncId} (hh : Here P f) {c : Call} {fo : Operand} (ho : o.op = .call c) (hc : c.callee = .value fo) {caps : List Value} (hf : a.eval fo = .func (.func f) #[] caps.toArray) :
    (execOp a.eval o).run P w = .ok (.enter f ((c.args.toList.map a.eval) ++ caps).toArray) w := by
  obtain ⟨fn, h1, h2, h3⟩ := hh
  have e : c.args.map a.eval ++ caps.toArray = ((c.args.toList.map a.eval) ++ caps).toArray := by apply Array.ext'; simp
  simp only [execOp, ho, resolve, hc, hf, Deferred.ofValue, Sem.run_bind, Sem.run_pure, Result.andThen_ok, invoke, callFunc, program, Sem.run, h1, h2, h3, Bool.false_eq_true, if_false, Array.empty_append, e]
theorem inv_call (inv : Inv E B w S β h) {S' : Nat → Prop} {β' : Nat → Option BI} {H : Heap} {d : Nat} (hbelow : Below w.heap.size w w') (hsub : ∀ b, S b → S' b) (hnews : ∀ b, S' b → S b ∨ w.heap.size ≤ b)
    (hlt : ∀ b, S' b → b < w'.heap.size) (hinj : ∀ k k' x x', β' k = some x → β' k' = some x' → x.real = true → x'.real = true → x.b = x'.b → k = k')
    (hnew : ∀ k x, β' k = some x → x.real = true → w.heap.size ≤ x.b ∧ x.b < w'.heap.size ∧ ¬ S' x.b)
    (hdom : ∀ k x, β' k = some x → ∃ bl, mget H k = some bl ∧ bl.box = false ∧ (x.real = true → BlkOK w' S' noKeys bl x) ∧ (x.real = false → bl.rows = []))
    (hcov : ∀ k bl, mget H k = some bl → ∃ x, β' k = some x) (hfr : freshAll (mget h) d H = true) (hnd : keysNodup H = true) :
    ∃ β2, Inv E B w' S' β2 (msets h (H.map fun q => (renK d q.1, q.2))) ∧ Gr B w S β w' S' β2 ∧ ∀ k x, β' k = some x → β2 (renK d k) = some x := by
  have hrel : ∀ k x, β' k = some x → β (renK d k) = none ∧ ∃ bl, mget H k = some bl := by
    intro k x hx
    obtain ⟨bl, h1, _⟩ := hdom k x hx
    obtain ⟨h2, _⟩ := freshAll_spec hfr (k, bl) (mget_mem h1)
    exact ⟨inv.fresh h2, bl, h1⟩
  let β2 : Nat → Option BI := fun k => match β k with
    | some x => some x
    | none => if renK d 0 ≤ k then β' (k - renK d 0) else none
  have b2 : ∀ k x, β k = some x → β2 k = some x := fun k x hx => by simp only [β2, hx]
  have b3 : ∀ k x, β' k = some x → β2 (renK d k) = some x := fun k x hx => by
    simp only [β2, (hrel k x hx).1]
    rw [if_pos (by simp only [renK]; omega)]
    have : renK d k - renK d 0 = k := by simp only [renK]; omega
    rw [this]; exact hx
  have b4 : ∀ k x, β2 k = some x → β k = some x ∨ ∃ j, k = renK d j ∧ β' j = some x := by
    intro k x hx
    simp only [β2] at hx
    split at hx
    · rename_i y hy; cases hx; exact .inl hy
    · split at hx
      · rename_i hge
        exact .inr ⟨k - renK d 0, by simp only [renK] at hge ⊢; omega, hx⟩
      · cases hx
  have g : Gr B w S β w' S' β2 := ⟨blw_of hbelow inv.base, fun b hb => hbelow.block b (inv.lt b hb), hsub, fun b hb => (hnews b hb).imp id (fun h hb => by have := inv.base b hb; omega), b2, fun k x hi hx => (b4 k x hx).resolve_right (by rintro ⟨j, rfl, _⟩; have := hi.2; simp only [renK] at this; omega)⟩
  have hmg : ∀ k, mget (msets h (H.map fun q => (renK d q.1, q.2))) k = (mget (H.map fun q => (renK d q.1, q.2)) k).or (mget h k) := by
    intro k
    rw [mget_msets, mget_reverse (keysNodup_ren d hnd)]
  have hsz := hbelow.size
  refine ⟨β2, ⟨fun b hb => by have := inv.base b hb; omega, hlt, ?_, ?_, ?_, ?_, fun gl row hg => (inv.glob gl row hg).mono g.keep g.sub⟩, g, b3⟩
  · intro k k' x x' h1 h2 r1 r2 e
    rcases b4 k x h1 with p1 | ⟨j, rfl, p1⟩ <;> rcases b4 k' x' h2 with p2 | ⟨j', rfl, p2⟩
    · exact inv.inj k k' x x' p1 p2 r1 r2 e
    · have n1 := (inv.new k x p1 r1).2.1; have n2 := (hnew j' x' p2 r2).1; omega
    · have n1 := (inv.new k' x' p2 r2).2.1; have n2 := (hnew j x p1 r1).1; omega
    · rw [hinj j j' x x' p1 p2 r1 r2 e]
  · intro k x h1 r1
    rcases b4 k x h1 with p1 | ⟨j, rfl, p1⟩
    · obtain ⟨n1, n2, n3⟩ := inv.new k x p1 r1
      exact ⟨n1, by omega, fun hs => (hnews _ hs).elim n3 (fun h => by omega)⟩
    · obtain ⟨n1, n2, n3⟩ := hnew j x p1 r1
      exact ⟨fun hs => by have := inv.base _ hs; omega, n2, n3⟩
  · intro k x h1
    rcases b4 k x h1 with p1 | ⟨j, rfl, p1⟩
    · obtain ⟨bl, a1, a2, a3⟩ := inv.dom k x p1
      refine ⟨bl, ?_, fun hr => (a2 hr).go g (hbelow.block _ (inv.new k x p1 hr).2.1), a3⟩
      rw [hmg]
      have : mget (H.map fun q => (renK d q.1, q.2)) k = none := by
        cases hk : mget (H.map fun q => (renK d q.1, q.2)) k with
        | none => rfl
        | some y =>
          have hm := mget_mem hk
          simp only [List.mem_map] at hm
          obtain ⟨q, hq, e⟩ := hm
          have := (freshAll_spec hfr q hq).1
          rw [show renK d q.1 = k from congrArg Prod.fst e, a1] at this
          cases this
      rw [this]
      exact a1
    · obtain ⟨bl, a1, a2, a3, a4⟩ := hdom j x p1
      refine ⟨bl, by rw [hmg, mget_ren, a1]; rfl, fun hr => ?_, fun hr => ⟨a4 hr, a2⟩⟩
      obtain ⟨cs, ty, c1, c2, c3, c4, c5, c6, c7, c8⟩ := a3 hr
      refine ⟨cs, ty, c1, c2, c3, c4, c5, c6, c7, fun i row hi => ⟨(c8 i row hi).1, fun q y hy => ?_⟩⟩
      obtain ⟨u, hu, hru⟩ := (c8 i row hi).2 q y hy
      rw [a2] at hru
      exact ⟨u, hu, by rw [a2]; simpa using hru⟩
  · intro k bl h1
    rw [hmg] at h1
    cases hy : mget (H.map fun q => (renK d q.1, q.2)) k with
    | some y =>
      have hm := mget_mem hy
      simp only [List.mem_map] at hm
      obtain ⟨q, hq, e⟩ := hm
      have e1 : renK d q.1 = k := congrArg Prod.fst e
      rw [← e1, mget_ren] at hy
      obtain ⟨x, hx⟩ := hcov q.1 y hy
      exact ⟨x, by rw [← e1]; exact b3 q.1 x hx⟩
    | none =>
      rw [hy] at h1
      obtain ⟨x, hx⟩ := inv.cov k bl h1
      exact ⟨x, b2 k x hx⟩
theorem eff_call (hF : FnOK P E) (hH : ∀ f args r H, (E.fn f args).val = some (r, H) → Here P f) (inv : Inv E B w S β h) {c : Call} {fo : Operand} (ho : o.op = .call c) (hc : c.callee = .value fo) {f : FuncId} {caps : List AV} (hf : RV w S β (.fn f caps) (a.eval fo))
    {uargs : List AV} (hargs : RL (RV w S β) uargs (c.args.toList.map a.eval)) {p : AV × Heap} (hp : (callK E (mget h) o.dst f (uargs ++ caps)).val = some p) : EffOK P E B o a w S β h p.1 p.2 := by
  obtain ⟨cvs, hfv, hcaps⟩ := (show RC w S β (.fn f caps) (a.eval fo) from hf)
  have hall : RL (RV w S β) (uargs ++ caps) (c.args.toList.map a.eval ++ cvs) := hargs.append (hcaps.imp fun b hb u hu => by
    by_cases hn : ∃ g cs, b = .fn g cs
    · obtain ⟨g, cs, rfl⟩ := hn
      cases (show R0 w S (.fn g cs) u from hu) with | fn => exact ⟨[], rfl, trivial⟩
    · exact RT.rv (RC.rt (by rw [RC_eq (fun g cs e => hn ⟨g, cs, e⟩)]; exact hu)))
  unfold callK at hp
  split at hp
  · rename_i hcond
    simp only [T.bind_some] at hp
    obtain ⟨⟨r, H⟩, hE, hp⟩ := hp
    have hrun := run_enter (P := P) (w := w) (hH f _ r H hE) ho hc hfv
    have hspec := hF.spec f _ r H hE
    -- the blocks that the callee sees
    have main : ∀ S1 : Nat → Prop, (∀ b, S b → S1 b) → (∀ b, S1 b → b < w.heap.size) → (∀ x ∈ uargs ++ caps, Sees w S β (mget h) S1 (refs2 x)) →
        Calls P f ((c.args.toList.map a.eval) ++ cvs).toArray w fun e w' => ∃ v S' β', e = .returned v ∧ Below w.heap.size w w' ∧ (∀ b, S1 b → S' b) ∧ (∀ b, S' b → S1 b ∨ w.heap.size ≤ b) ∧
      (∀ b, S' b → b < w'.heap.size) ∧
      (∀ k k' x x', β' k = some x → β' k' = some x' → x.real = true → x'.real = true → x.b = x'.b → k = k') ∧
      (∀ k x, β' k = some x → x.real = true → w.heap.size ≤ x.b ∧ x.b < w'.heap.size ∧ ¬ S' x.b) ∧
      (∀ k x, β' k = some x → ∃ bl, mget H k = some bl ∧ bl.box = false ∧ (x.real = true → BlkOK w' S' noKeys bl x) ∧ (x.real = false → bl.rows = [])) ∧
      (∀ k bl, mget H k = some bl → ∃ x, β' k = some x) ∧ RV w' S' β' r v := by
      intro S1 h1 h2 h3
      exact hspec w S1 _ h2 (fun g row hg => (inv.glob g row hg).mono (fun _ _ => rfl) h1) (hall.map fun b hb u hu => view2_rep h1 (h3 b hb) hu)
    intro K Q hK
    unfold Oper.wp
    rw [hrun, Oper.upon_enter]
    by_cases hfl : E.flat f = true
    · obtain ⟨hfH, hflat⟩ := hF.flat f _ r H hE hfl
      refine (main (plusOwn S β) (fun b hb => .inl hb) (fun b hb => ?_) (fun x _ => sees_own inv _)).mono ?_
      · rcases hb with hb | ⟨k, x, h1, h2, rfl⟩
        · exact inv.lt b hb
        · exact (inv.new k x h1 h2).2.1
      · rintro e w' ⟨v, S', β', rfl, hbel, h1, h2, h3, h4, h5, h6, h7, hrv⟩
        -- what the callee knows of the call's own blocks is forgotten
        let S2 : Nat → Prop := fun b => S b ∨ (S' b ∧ w.heap.size ≤ b)
        have g1 : ∀ b, S b → S2 b := fun b hb => .inl hb
        have g2 : ∀ b, S2 b → S b ∨ w.heap.size ≤ b := fun b hb => hb.imp id (fun h => h.2)
        have g3 : ∀ b, S2 b → b < w'.heap.size := fun b hb => hb.elim (fun h => Nat.lt_of_lt_of_le (inv.lt b h) hbel.size) (fun h => h3 b h.1)
        have g5 : ∀ k x, β' k = some x → x.real = true → w.heap.size ≤ x.b ∧ x.b < w'.heap.size ∧ ¬ S2 x.b := fun k x hx hr => by
          obtain ⟨q1, q2, q3⟩ := h5 k x hx hr
          refine ⟨q1, q2, fun hs => hs.elim (fun h => ?_) (fun h => q3 h.1)⟩
          have := inv.lt _ h; omega
        have g6 : ∀ k x, β' k = some x → ∃ bl, mget H k = some bl ∧ bl.box = false ∧ (x.real = true → BlkOK w' S2 noKeys bl x) ∧ (x.real = false → bl.rows = []) := fun k x hx => by
          obtain ⟨bl, q1, q2, q3, q4⟩ := h6 k x hx
          refine ⟨bl, q1, q2, fun hr => ?_, q4⟩
          obtain ⟨cs, ty, c1, c2, c3, c4, c5, c6, c7, c8⟩ := q3 hr
          refine ⟨cs, ty, c1, c2, c3, c4, c5, c6, c7, fun i row hi => ⟨(c8 i row hi).1, fun q y hy => ?_⟩⟩
          obtain ⟨u, hu, hru⟩ := (c8 i row hi).2 q y hy
          refine ⟨u, hu, ?_⟩
          rw [q2] at hru ⊢
          have hfl0 : flat0 y = true := by
            have a1 := List.all_eq_true.1 hfH _ (mget_mem q1)
            have a2 := List.all_eq_true.1 a1 row (List.mem_of_getElem? hi)
            exact List.all_eq_true.1 a2 y (List.mem_of_getElem? hy)
          simp only [Bool.false_eq_true, if_false] at hru ⊢
          cases y <;> first | (simp [flat0] at hfl0; done) | skip
          · exact .unk hru.one
          · cases hru with | v h => exact .v h
        have hrv' : RV w' S2 β' r v := frs2_rv hflat hrv
        split at hp
        · rename_i d _
          split at hp
          · rename_i hck
            simp only [Bool.and_eq_true] at hck
            obtain ⟨⟨k1, k2⟩, k3⟩ := hck
            rw [T.ret_some] at hp
            subst hp
            obtain ⟨β2, i1, gg, b3⟩ := inv_call (d := d) inv hbel g1 g2 g3 h4 g5 g6 h7 k2 k3
            exact hK v w' S2 β2 i1 gg (ren2_rv (fun k _ => b3 k) hrv')
          · rw [T.fail_some] at hp; exact hp.elim
        · rw [T.ret_some] at hp
          subst hp
          obtain ⟨β2, i1, gg, _⟩ := inv_call (β' := noKeys) (S' := S2) (H := []) (d := 0) inv hbel g1 g2 g3 (fun _ _ _ _ h => by cases h) (fun _ _ h => by cases h) (fun _ _ h => by cases h) (fun _ _ h => by cases h) rfl rfl
          exact hK v w' S2 β2 i1 gg trivial
    · have hno : noRefs (uargs ++ caps) = true := by simpa [hfl] using hcond
      have hno' : ∀ x ∈ uargs ++ caps, refs2 x = [] := fun x hx => by
        have := List.all_eq_true.1 hno x hx
        split at this
        · assumption
        · cases this
      refine (main S (fun _ h => h) inv.lt (fun x hx => by rw [hno' x hx]; exact sees_nil)).mono ?_
      rintro e w' ⟨v, S', β', rfl, hbel, h1, h2, h3, h4, h5, h6, h7, hrv⟩
      split at hp
      · rename_i d _
        split at hp
        · rename_i hck
          simp only [Bool.and_eq_true] at hck
          obtain ⟨⟨k1, k2⟩, k3⟩ := hck
          rw [T.ret_some] at hp
          subst hp
          obtain ⟨β2, i1, g1, b3⟩ := inv_call (d := d) inv hbel h1 h2 h3 h4 h5 h6 h7 k2 k3
          exact hK v w' S' β2 i1 g1 (ren2_rv (fun k _ => b3 k) hrv)
        · rw [T.fail_some] at hp; exact hp.elim
      · rw [T.ret_some] at hp
        subst hp
        obtain ⟨β2, i1, g1, _⟩ := inv_call (β' := noKeys) (S' := S') (H := []) (d := 0) inv hbel h1 h2 h3 (fun _ _ _ _ h => by cases h) (fun _ _ h => by cases h) (fun _ _ h => by cases h) (fun _ _ h => by cases h) rfl rfl
        exact hK v w' S' β2 i1 g1 trivial
  · rw [T.fail_some] at hp; exact hp.elim
end

end

section

variable {P : Program} {E : Env}
/-- All that the machine leans on. -/
structure EnvOK (P : Program) (E : Env) : Prop where
  ty : TyOK P E
  fn : FnOK P E
  here : ∀ f args r H, (E.fn f args).val = some (r, H) → Here P f
  spech : ∀ f args hin r hout mv, (E.fh f args hin).val = some (r, hout, mv) → SpecH P E.glob f args hin r hout mv
  hereh : ∀ f args hin p, (E.fh f args hin).val = some p → Here P f

section
variable {B : Nat → Prop} {o : Oper} {a : Act} {w w' : World} {S S' : Nat → Prop} {β β' : Nat → Option BI} {h : Heap} {av : AV} {v : Value} {ρ : Operand → AV}
theorem eff_of (inv : Inv E B w S β h) {t : T AV} {f : Sem Value} (he : execOp a.eval o = (do let x ← f; pure (.value x))) (hr : ∀ r, t.val = some r → ∃ u, f.run P w = .ok u w ∧ RV w S β r u) {p : AV × Heap} (hp : t.plain.val = some p) :
    EffOK P E B o a w S β h p.1 p.2 := by
  rw [T.plain_some] at hp
  obtain ⟨r, h1, rfl⟩ := hp
  obtain ⟨u, h2, h3⟩ := hr r h1
  exact eff_val inv (by rw [he]; simp [h2]) h3
theorem args_rl (hρ : Args w S β ρ a) : ∀ l : List Operand, RL (RV w S β) (l.map ρ) (l.map a.eval)
  | [] => trivial
  | x :: l => ⟨hρ x, args_rl hρ l⟩
theorem eff_sound (ok : EnvOK P E) (inv : Inv E B w S β h) (hρ : Args w S β ρ a)
    (hpk : ∀ (c : Nat) (b : Bool), ρ (.tmp c) = .v (.bool b) → ∀ x j bb want y, ρ x = .gd j bb want y → j = c → (bb = true ↔ b = want)) {p : AV × Heap} (hp : (eff E ρ (mget h) o).val = some p) : EffOK P E B o a w S β h p.1 p.2 := by
  have hT := ok.ty
  unfold eff at hp
  split at hp
  · -- move
    rename_i x ho
    rw [show plain (ρ x) = .ret (ρ x, []) from rfl, T.ret_some] at hp
    subst hp
    exact eff_move inv hρ (.inl ho)
  · -- assign
    rename_i x ho
    split at hp
    · rename_i h0
      split at hp
      · split at hp
        · exact eff_virt inv (hρ x) h0 ho _ _ hp
        · rw [T.fail_some] at hp; exact hp.elim
      · rw [show plain (ρ x) = .ret (ρ x, []) from rfl, T.ret_some] at hp
        subst hp
        exact eff_move inv hρ (.inr ho)
    · rw [show plain (ρ x) = .ret (ρ x, []) from rfl, T.ret_some] at hp
      subst hp
      exact eff_move inv hρ (.inr ho)
  · -- pick
    rename_i c x y ho
    split at hp
    · rename_i c
      split at hp
      · rename_i b hb
        have hb' := boolOf_some hb
        have hc := hρ (.tmp c)
        rw [hb'] at hc
        obtain ⟨hcv, _⟩ := rv_v hc
        refine eff_of inv (f := do pure (if ← asBool (a.eval (.tmp c)) then a.eval x else a.eval y)) (by simp [execOp, ho]) (fun r hr => ⟨if b then a.eval x else a.eval y, by rw [hcv]; simp [asBool], ?_⟩) hp
        exact run_pick (hρ x) (hρ y) (fun j bb want z hz hj => hpk c b hb' x j bb want z hz hj) (fun j bb want z hz hj => hpk c b hb' y j bb want z hz hj) hr
      · rw [T.fail_some] at hp; exact hp.elim
    · rw [T.fail_some] at hp; exact hp.elim
  · -- binOp
    rename_i op t x y t2 ho
    split at hp
    · rename_i hy
      have hy : y = .const (.slice none 0 0) := by
        unfold isNilC at hy
        split at hy
        · rfl
        · cases hy
      subst hy
      exact eff_of inv (f := do eqGuard op t x (.const (.slice none 0 0)) (a.eval x) (.slice none 0 0); binOp op t (a.eval x) (.slice none 0 0)) (by simp [execOp, ho, Act.eval]) (fun r hr => run_nilK hT op t x _ (hρ x) hr) hp
    exact eff_of inv (f := do eqGuard op t x y (a.eval x) (a.eval y); binOp op t (a.eval x) (a.eval y)) (by simp [execOp, ho]) (fun r hr => run_binK hT op t x y (hρ x) (hρ y) hr) hp
  · rename_i op t x ho
    exact eff_of inv (f := Op.unary op (a.eval x)) (by simp [execOp, ho]) (fun r hr => run_unK op (hρ x) hr) hp
  · -- convert
    rename_i t0 t x ho
    split at hp
    · rename_i ti hti
      split at hp
      · rename_i kd hkd
        split at hp
        · rename_i n hn
          rw [show plain (.v (.int kd (kd.wrap n))) = .ret (.v (.int kd (kd.wrap n)), []) from rfl, T.ret_some] at hp
          subst hp
          split at hkd
          · rename_i ti0 hti0
            obtain ⟨i0, d0, z0, sp0⟩ := hT.spec hti0
            obtain ⟨i, d, z, sp⟩ := hT.spec hti
            rw [sp.kind] at hkd
            cases d <;> simp [kindOf] at hkd
            subst hkd
            obtain ⟨k0, hx⟩ := intOfA_some hn
            have hx' := hρ x
            rw [hx] at hx'
            obtain ⟨hxv, _⟩ := rv_v hx'
            refine eff_val (v := .int _ (IntKind.wrap _ n)) inv ?_ (rv_mk (wrap_ok _ _))
            simp only [execOp, ho, convert, Sem.run_bind, run_underlying sp0.und, run_underlying sp.und, Result.andThen_ok, hxv]
            cases d0 <;> simp [Conv.intToInt]
          · cases hkd
        · rw [T.fail_some] at hp; exact hp.elim
      · rw [T.fail_some] at hp; exact hp.elim
    · rw [T.fail_some] at hp; exact hp.elim
  · -- extract
    rename_i x i ho
    split at hp
    · rename_i vs hx
      have hx' := hρ x
      rw [hx] at hx'
      obtain ⟨us, hus, hr⟩ := rv_tup hx'
      refine eff_of inv (f := Instr.extract (a.eval x) i) (by simp [execOp, ho]) (fun r hrr => ?_) hp
      simp only [T.opt_some, T.ret_some] at hrr
      obtain ⟨y, hy, rfl⟩ := hrr
      obtain ⟨u, hu, hru⟩ := hr.get hy
      exact ⟨u, by simp [hus, Instr.extract, hu], RT.rv hru⟩
    · rw [T.fail_some] at hp; exact hp.elim
  · -- field
    rename_i s x f ho
    split at hp
    · rename_i off ag n hf
      exact eff_of inv (f := Instr.field s (a.eval x) f) (by simp [execOp, ho]) (fun r hr => run_field hT hf (hρ x) hr) hp
    · rw [T.fail_some] at hp; exact hp.elim
  · rename_i s x f ho
    split at hp
    · rename_i off ag n hf
      exact eff_of inv (f := Instr.fieldAt s (a.eval x) f) (by simp [execOp, ho]) (fun r hr => run_fieldAddr hT hf (hρ x) hr) hp
    · rw [T.fail_some] at hp; exact hp.elim
  · -- nilCheck
    rename_i x ho
    rw [T.plain_some] at hp
    obtain ⟨r, h1, rfl⟩ := hp
    obtain ⟨u, h2, h3⟩ := run_nilCheck ho (hρ x) h1
    exact eff_val inv (by rw [h2]; rfl) h3
  · rename_i t x i ho
    split at hp
    · rename_i ti hti
      split at hp
      · rename_i hd
        exact eff_of inv (f := Instr.indexAt t (a.eval x) (a.eval i)) (by simp [execOp, ho]) (fun r hr => run_indexK hT inv hti hd (hρ x) (hρ i) hr) hp
      · rw [T.fail_some] at hp; exact hp.elim
    · rw [T.fail_some] at hp; exact hp.elim
  · rename_i t x i ho
    split at hp
    · rename_i hd
      exact eff_of inv (f := Instr.index t (a.eval x) (a.eval i)) (by simp [execOp, ho]) (fun r hr => run_indexS hT hd (hρ x) (hρ i) hr) hp
    · rw [T.fail_some] at hp; exact hp.elim
  · rename_i t x ho
    split at hp
    · rename_i ti hti
      exact eff_of inv (f := Instr.loadAt t (a.eval x)) (by simp [execOp, ho]) (fun r hr => run_loadK hT inv hti (hρ x) hr) hp
    · rw [T.fail_some] at hp; exact hp.elim
  · rename_i t ho
    split at hp
    · rename_i ti hti
      exact eff_alloc hT inv ho hti hp
    · rw [T.fail_some] at hp; exact hp.elim
  · rename_i t x ho
    split at hp
    · rename_i ti hti
      split at hp
      · rename_i hc
        simp only [Bool.and_eq_true] at hc
        exact eff_box hT inv ho (hρ x) hc.1 hp
      · rw [T.fail_some] at hp; exact hp.elim
    · rw [T.fail_some] at hp; exact hp.elim
  · rename_i t parts ho
    split at hp
    · rename_i ti hti
      split at hp
      · rename_i cs hcs
        split at hcs
        · rename_i hd5
          rw [show plain (.agg cs) = .ret (.agg cs, []) from rfl, T.ret_some] at hp
          subst hp
          obtain ⟨u, h1, h2⟩ := run_buildS (P := P) (w := w) hT hti hρ parts hd5 hcs
          exact eff_val inv (by simp only [execOp, ho, Sem.run_bind, h1, Result.andThen_ok, Sem.run_pure]) h2
        · cases hcs
      · rw [T.fail_some] at hp; exact hp.elim
    · rw [T.fail_some] at hp; exact hp.elim
  · rename_i t n parts ho
    split at hp
    · rename_i ti hti
      split at hp
      · rename_i hc
        split at hp
        · exact eff_buildPtrs hT inv hti hρ n parts ho hc hp
        · exact eff_buildSlice hT inv hti hρ n parts ho hc hp
      · rw [T.fail_some] at hp; exact hp.elim
    · rw [T.fail_some] at hp; exact hp.elim
  · rename_i t x y ho
    split at hp
    · rename_i ti hti
      exact eff_make hT inv hti (hρ x) (hρ y) ho hp
    · rw [T.fail_some] at hp; exact hp.elim
  · rename_i t x y ho
    split at hp
    · rename_i ti hti
      exact eff_store hT inv ho hti (hρ x) (hρ y) hp
    · rw [T.fail_some] at hp; exact hp.elim
  · -- slice
    rename_i t x lo hi mx ho
    split at hp
    · rename_i ti hti
      split at hp
      · rename_i hw
        rw [Bool.and_eq_true] at hw
        have hmx : mx = none := by cases mx <;> first | rfl | (simp at hw)
        subst hmx
        exact eff_of inv (f := Instr.sliceAt t (a.eval x) (lo.map a.eval) (hi.map a.eval) none) (by simp [execOp, ho]) (fun r hr => run_winK hT inv hti (hρ x) hρ lo hi hr) hp
      refine eff_of inv (f := Instr.sliceAt t (a.eval x) (lo.map a.eval) (hi.map a.eval) (mx.map a.eval)) (by simp [execOp, ho]) (fun r hr => ?_) hp
      unfold sliceK at hr
      split at hr
      · rename_i hmx
        have hmx' : mx = none := by cases mx <;> first | rfl | (simp [optA] at hmx)
        subst hmx'
        split at hr
        · rename_i rows hx
          have hx' := hρ x
          rw [hx] at hx'
          split at hr
          · rename_i hd
            exact run_cutRows hT hti hd (rv_sl hx') hρ lo hi hr
          · rw [T.fail_some] at hr; exact hr.elim
        · rename_i s hx
          have hx' := hρ x
          rw [hx] at hx'
          obtain ⟨hxv, hok⟩ := rv_v hx'
          rw [hxv]
          split at hr
          · rename_i hd
            exact run_cutStr hT hti hd hok hρ lo hi hr
          · rw [T.fail_some] at hr; exact hr.elim
        · rw [T.fail_some] at hr; exact hr.elim
      · rename_i mxa hmx
        split at hr
        · rename_i hz
          simp only [Bool.and_eq_true] at hz
          obtain ⟨⟨⟨z1, z2⟩, z3⟩, hd⟩ := hz
          obtain ⟨i, d, z, sp⟩ := hT.spec hti
          obtain ⟨ei, rfl, he, hes, _⟩ := sp.isSlice hd
          have zero : ∀ q : Option Operand, isZero (optA ρ q) = true → ∃ y k, q = some y ∧ a.eval y = .int k 0 := by
            intro q hq
            cases q with
            | none => simp [optA, isZero] at hq
            | some y =>
              simp only [optA, isZero] at hq
              split at hq
              · rename_i k hk
                simp only [Option.some.injEq] at hk
                have := hρ y
                rw [hk] at this
                exact ⟨y, k, rfl, (rv_v this).1⟩
              · cases hq
          obtain ⟨y1, k1, rfl, v1⟩ := zero mx (by rw [hmx]; exact hmx ▸ z1)
          obtain ⟨y2, k2, rfl, v2⟩ := zero hi z2
          have hlo : lo = none := by cases lo <;> first | rfl | (simp [optA] at z3)
          subst hlo
          have key : ∀ A len cap, a.eval x = .slice A len cap → r = .e0 → ∃ u, (Instr.sliceAt t (a.eval x) (Option.map a.eval none) (Option.map a.eval (some y2)) (Option.map a.eval (some y1))).run P w = .ok u w ∧ RV w S β r u := by
            rintro A len cap hx rfl
            refine ⟨.slice A 0 0, ?_, A, rfl⟩
            simp [Instr.sliceAt, run_underlying sp.und, hx, Instr.slice, Instr.sliceBounds, v1, v2, Instr.sliceBound, asIntOf, run_size w he]
          split at hr
          · rename_i rows hx
            have hx' := hρ x
            rw [hx] at hx'
            obtain ⟨A, cap, hv, _⟩ := R0.len (rv_sl hx')
            rw [T.ret_some] at hr
            exact key A _ cap hv hr.symm
          · rename_i k hx
            have hx' := hρ x
            rw [hx] at hx'
            obtain ⟨X, hX, g1, g2⟩ := rv_own hx'
            rw [T.ret_some] at hr
            cases hrr : X.real
            · obtain ⟨A, hv⟩ := g2 hrr; exact key A _ _ hv hr.symm
            · exact key _ _ _ (g1 hrr) hr.symm
          · rename_i hx
            have hx' := hρ x
            rw [hx] at hx'
            obtain ⟨A, hv⟩ := rv_e0 hx'
            rw [T.ret_some] at hr
            exact key A _ _ hv hr.symm
          · rw [T.fail_some] at hr; exact hr.elim
        · rw [T.fail_some] at hr; exact hr.elim
    · rw [T.fail_some] at hp; exact hp.elim
  · -- makeFunc
    rename_i fn first captured ho
    split at hp
    · rename_i f
      split at hp
      · rename_i hfirst
        split at hp
        · rename_i hcap
          rw [show plain (.fn f (captured.toList.map ρ)) = .ret (.fn f (captured.toList.map ρ), []) from rfl, T.ret_some] at hp
          subst hp
          have hf0 : first = #[] := by cases first; simp at hfirst; simp [hfirst]
          subst hf0
          refine eff_val (v := .func (.func f) #[] (captured.toList.map a.eval).toArray) inv ?_ ⟨_, rfl, ?_⟩
          · simp [execOp, ho, Instr.makeFunc]; apply Array.ext'; simp
          · refine (args_rl hρ captured.toList).imp fun b hb u hu => ?_
            have := List.all_eq_true.1 hcap b hb
            cases b <;> first | exact hu | (simp [capOK] at this)
        · rw [T.fail_some] at hp; exact hp.elim
      · rw [T.fail_some] at hp; exact hp.elim
    · rw [T.fail_some] at hp; exact hp.elim
  · -- calls
    rename_i c ho
    split at hp
    · rename_i b hb
      obtain ⟨callee, args, ts⟩ := c
      simp only at hb hp
      subst hb
      unfold builtinK at hp
      split at hp
      · split at hp
        · rename_i x t hargs hts
          obtain rfl : args = #[x] := by cases args; simp at hargs; simp [hargs]
          obtain rfl : ts = #[t] := by cases ts; simp at hts; simp [hts]
          split at hp
          · rename_i ti hti
            exact eff_of inv (f := Builtin.len_ #[t] o.type #[a.eval x]) (by simp [execOp, ho, resolve, invoke, builtin]) (fun r hr => run_lenK hT inv hti o.type (hρ x) hr) hp
          · rw [T.fail_some] at hp; exact hp.elim
        · rw [T.fail_some] at hp; exact hp.elim
      · split at hp
        · rename_i x y hargs
          obtain rfl : args = #[x, y] := by cases args; simp at hargs; simp [hargs]
          exact eff_of inv (f := Builtin.max_ ts o.type #[a.eval x, a.eval y]) (by simp [execOp, ho, resolve, invoke, builtin]) (fun r hr => (run_minmax ts o.type (hρ x) (hρ y)).1 hr) hp
        · rw [T.fail_some] at hp; exact hp.elim
      · split at hp
        · rename_i x y hargs
          obtain rfl : args = #[x, y] := by cases args; simp at hargs; simp [hargs]
          exact eff_of inv (f := Builtin.min_ ts o.type #[a.eval x, a.eval y]) (by simp [execOp, ho, resolve, invoke, builtin]) (fun r hr => (run_minmax ts o.type (hρ x) (hρ y)).2 hr) hp
        · rw [T.fail_some] at hp; exact hp.elim
      · split at hp
        · rename_i x y t t' hargs hts
          obtain rfl : args = #[x, y] := by cases args; simp at hargs; simp [hargs]
          obtain rfl : ts = #[t, t'] := by cases ts; simp at hts; simp [hts]
          split at hp
          · rename_i htt
            obtain rfl := beq_true.1 htt
            exact eff_app0 hT inv (hρ x) (hρ y) ho hp
          · rw [T.fail_some] at hp; exact hp.elim
        · rw [T.fail_some] at hp; exact hp.elim
      · split at hp
        · rename_i x t hargs hts
          obtain rfl : args = #[x] := by cases args; simp at hargs; simp [hargs]
          obtain rfl : ts = #[t] := by cases ts; simp at hts; simp [hts]
          split at hp
          · rename_i ti hti
            exact eff_clear hT inv hti (hρ x) ho hp
          · rw [T.fail_some] at hp; exact hp.elim
        · rw [T.fail_some] at hp; exact hp.elim
      · rw [T.fail_some] at hp; exact hp.elim
    · rename_i fo hb
      split at hp
      · rename_i f caps hf
        have hf' := hρ fo
        rw [hf] at hf'
        split at hp
        · exact eff_call ok.fn ok.here inv ho hb hf' (args_rl hρ _) hp
        · rw [T.fail_some] at hp; exact hp.elim
      · rw [T.fail_some] at hp; exact hp.elim
    · rw [T.fail_some] at hp; exact hp.elim
  · rw [T.fail_some] at hp; exact hp.elim
end

end

section

variable {P : Program} {E : Env}

/-- Guarded values know whether their guards let them be. -/
def GdOK (t : Tmps) (a : Act) : Prop := ∀ n j f want x, getT t n = .gd j f want x → mget t j ≠ none ∧ (f = true ↔ a.tmps.getD j undef = .bool want)
theorem getT_map (t : Tmps) (f : AV → AV) (hf : f .unk = .unk) (n : Nat) : getT (t.map fun p => (p.1, f p.2)) n = f (getT t n) := by
  unfold getT; rw [mget_map]; cases mget t n <;> simp [hf]
theorem getT_undo (t : Tmps) (d n : Nat) : getT (undo t d) n = getT t n ∨ (getT (undo t d) n = .unk ∧ gdOf d (getT t n) = true) := by
  unfold undo
  split
  · exact .inl rfl
  · rw [getT_map t (unGd d) rfl n]
    unfold unGd
    split
    · exact .inr ⟨rfl, ‹_›⟩
    · exact .inl rfl
theorem gdOf_true {d : Nat} {x : AV} (h : gdOf d x = true) : ∃ b want y, x = .gd d b want y := by
  cases x <;> simp [gdOf] at h
  rename_i j b want y
  obtain rfl := h
  exact ⟨b, want, y, rfl⟩
section
variable {B : Nat → Prop} {N : Nat} {β0 : Nat → Option BI} {o : Oper} {a : Act} {w w' : World} {S S' S0 : Nat → Prop} {β β' : Nat → Option BI} {h : Heap} {av : AV} {v : Value} {t : Tmps}
theorem put_get (a : Act) (d n : Nat) (v : Value) (hd : d < a.tmps.size) : (a.put (some d) v).tmps.getD n undef = if n = d then v else a.tmps.getD n undef := by
  simp only [Act.put, Array.getD_eq_getD_getElem?, Array.getElem?_setIfInBounds]
  by_cases e : n = d
  · subst e; simp [hd]
  · simp [e, Ne.symm e]
theorem TOK.put (ht : TOK w S β t a) {dst : Option Tmp} (hd : ∀ d, dst = some d → d < a.tmps.size) (hv : RV w S β av v) : TOK w S β (setD t dst av) (a.put dst v) := by
  cases dst with
  | none => exact ht
  | some d =>
    intro n
    rw [put_get a d n v (hd d rfl)]
    simp only [setD, getT_mset]
    by_cases e : n = d
    · rw [if_pos e, if_pos e]; exact hv
    · rw [if_neg e, if_neg e]
      rcases getT_undo t d n with h1 | ⟨h1, _⟩
      · rw [h1]; exact ht n
      · rw [h1]; trivial
theorem mget_undo (t : Tmps) (d n : Nat) : mget (undo t d) n = none ↔ mget t n = none := by
  unfold undo
  split
  · exact Iff.rfl
  · rw [mget_map]; cases mget t n <;> simp
theorem put_other (a : Act) (d n : Nat) (v : Value) (h : n ≠ d) : (a.put (some d) v).tmps.getD n undef = a.tmps.getD n undef := by
  simp only [Act.put, Array.getD_eq_getD_getElem?, Array.getElem?_setIfInBounds]
  simp [Ne.symm h]
theorem GdOK.set (hg : GdOK t a) (dst : Option Tmp) (u : Value) (hv : ∀ d j f want x, dst = some d → av = .gd j f want x → j ≠ d ∧ mget t j ≠ none ∧ (f = true ↔ a.tmps.getD j undef = .bool want)) : GdOK (setD t dst av) (a.put dst u) := by
  cases dst with
  | none => exact hg
  | some d =>
    intro n j f want x hn
    simp only [setD, getT_mset] at hn
    have keep : j ≠ d → mget t j ≠ none → (f = true ↔ a.tmps.getD j undef = .bool want) → mget (setD t (some d) av) j ≠ none ∧ (f = true ↔ (a.put (some d) u).tmps.getD j undef = .bool want) := by
      intro hj h1 h2
      refine ⟨?_, by rw [put_other a d j u hj]; exact h2⟩
      simp only [setD, mget_mset, if_neg hj]
      exact fun hh => h1 ((mget_undo t d j).1 hh)
    by_cases e : n = d
    · rw [if_pos e] at hn
      obtain ⟨h1, h2, h3⟩ := hv d j f want x rfl hn
      exact keep h1 h2 h3
    · rw [if_neg e] at hn
      rcases getT_undo t d n with h1 | ⟨h1, _⟩
      · rw [h1] at hn
        obtain ⟨g1, g2⟩ := hg n j f want x hn
        by_cases hjd : j = d
        · subst hjd
          exfalso
          unfold undo at h1
          split at h1
          · exact g1 ‹_›
          · rw [getT_map t (unGd j) rfl n, hn] at h1
            simp [unGd, gdOf] at h1
        · exact keep hjd g1 g2
      · rw [h1] at hn; cases hn

/-- The machine's state stands for the frame and the world. -/
structure Rel (E : Env) (B : Nat → Prop) (N : Nat) (w0 : World) (S0 : Nat → Prop) (β0 : Nat → Option BI) (s : St) (a : Act) (w : World) (S : Nat → Prop) (β : Nat → Option BI) : Prop where
  inv : Inv E B w S β s.h
  tok : TOK w S β s.t a
  gd : GdOK s.t a
  below : Blw B w0 w
  sub : ∀ b, S0 b → S b
  news : ∀ b, S b → S0 b ∨ ¬ B b
  fix : ∀ k x, inK k → E.mv k = false → β k = some x → β0 k = some x
  size : a.tmps.size = N
  defers : a.defers = []
def RelE (E : Env) (B : Nat → Prop) (N : Nat) (w0 : World) (S0 : Nat → Prop) (β0 : Nat → Option BI) (s : St) (a : Act) (w : World) : Prop := ∃ S β, Rel E B N w0 S0 β0 s a w S β
variable {w0 : World} {s s' : St} {g : Option (Nat × Bool)}
theorem okConst_rv {x : Value} (hx : okConst x = true) : RV w S β (ofConst x) x := by
  have one : ∀ y, okConst1 y = true → okAtom y := by
    intro y hy
    unfold okConst1 at hy
    split at hy <;> first | trivial | (simpa [okAtom] using hy) | (cases hy)
  unfold okConst at hx
  split at hx
  · exact ⟨none, rfl⟩
  · rename_i cs
    refine ⟨cs.toList, by simp, ?_⟩
    have : ∀ l : List Value, (∀ y ∈ l, okConst1 y = true) → RL (RC w S β) (l.map .v) l := by
      intro l
      induction l with
      | nil => exact fun _ => trivial
      | cons y l ih => exact fun hl => ⟨R0.rc (.v (one y (hl y (by simp)))), ih fun z hz => hl z (by simp [hz])⟩
    exact this cs.toList fun y hy => List.all_eq_true.1 hx y hy
  · rename_i h1 h2
    have : ofConst x = .v x := by
      unfold ofConst
      split
      · exact absurd rfl h1
      · exact absurd rfl (h2 _)
      · rfl
    rw [this]
    exact rv_mk (one x hx)
/-- The operands under guard g. -/
def GuardOK (a : Act) (g : Option (Nat × Bool)) : Prop := ∀ d want, g = some (d, want) → a.tmps.getD d undef = .bool want
theorem Rel.args (rel : Rel E B N w0 S0 β0 s a w S β) (hg : GuardOK a g) : Args w S β (ρOf E g s.t) a := by
  intro x
  unfold ρOf
  cases x with
  | tmp n =>
    have hn := rel.tok n
    show RV w S β (ung g (getT s.t n)) (a.tmps.getD n undef)
    unfold ung
    split
    · rename_i i b wt y hy
      rw [hy] at hn
      split
      · rename_i d want
        split
        · rename_i hc
          simp only [Bool.and_eq_true] at hc
          obtain ⟨c1, c2⟩ := hc
          have c1 := beq_true.1 c1
          have c2 := asked_eq.1 c2
          subst c1 c2
          have hb := hg d wt rfl
          have := (rel.gd n d b wt y hy).2.2 hb
          have hz := hn.1 this
          unfold flatOnly
          split
          · trivial
          · trivial
          · exact RT.rv hz
        · exact hn
      · exact hn
    · exact hn
  | const v =>
    show RV w S β (ung g (ev E s.t (.const v))) v
    have h1 : ∀ y, RV w S β (ung g y) v → True := fun _ _ => trivial
    simp only [ev]
    split
    · rename_i hc
      have := okConst_rv (w := w) (S := S) (β := β) hc
      have hu : ung g (ofConst v) = ofConst v := by unfold ofConst; split <;> rfl
      rw [hu]; exact this
    · trivial
  | global gl =>
    simp only [ev]
    split
    · rename_i row hrow
      exact ⟨gl, 0, by simp [Act.eval], (rel.inv.glob gl row hrow).row⟩
    · trivial
  | func f => exact ⟨[], rfl, trivial⟩
theorem Rel.picks (rel : Rel E B N w0 S0 β0 s a w S β) (hg : GuardOK a g) : ∀ (c : Nat) (b : Bool), ρOf E g s.t (.tmp c) = .v (.bool b) → ∀ x j bb want y, ρOf E g s.t x = .gd j bb want y → j = c → (bb = true ↔ b = want) := by
  rintro c b hc x j bb want y hx rfl
  have hb : a.tmps.getD j undef = .bool b := by
    have := rel.args hg (.tmp j)
    rw [hc] at this
    exact (rv_v this).1
  have hgd : ∃ n, getT s.t n = .gd j bb want y := by
    unfold ρOf at hx
    cases x with
    | tmp n =>
      refine ⟨n, ?_⟩
      simp only [ev] at hx
      unfold ung at hx
      split at hx
      · rename_i i b0 w0' z hz
        split at hx
        · split at hx
          · unfold flatOnly at hx
            split at hx
            · cases hx
            · cases hx
            · rename_i hne _; exact absurd hx (hne _ _ _ _)
          · rw [hz]; exact hx
        · rw [hz]; exact hx
      · exact hx
    | const v =>
      simp only [ev] at hx
      split at hx
      · unfold ofConst at hx; split at hx <;> cases hx
      · cases hx
    | global gl => simp only [ev] at hx; split at hx <;> cases hx
    | func f => cases hx
  obtain ⟨n, hn⟩ := hgd
  have := (rel.gd n j bb want y hn).2
  rw [hb] at this
  rw [this]
  simp
end

end

section

variable {P : Program} {E : Env}
section
variable {B : Nat → Prop} {N : Nat} {β0 : Nat → Option BI} {o : Oper} {a : Act} {w w' w0 : World} {S S' S0 : Nat → Prop} {β β' : Nat → Option BI} {h : Heap} {av : AV} {v : Value} {t : Tmps} {s s' : St} {g : Option (Nat × Bool)}
/-- What a step has to do. -/
def StepOK (P : Program) (E : Env) (B : Nat → Prop) (N : Nat) (w0 : World) (S0 : Nat → Prop) (β0 : Nat → Option BI) (o : Oper) (a : Act) (w : World) (s' : St) : Prop :=
  ∀ (K : Act → World → Prop) (Q : Exit → Act → World → Prop), (∀ a' w', RelE E B N w0 S0 β0 s' a' w' → K a' w') → o.wp P a w K Q
theorem noGd_rv (hr : RV w S β av v) : RV w S β (noGd av) v := by
  unfold noGd; split
  · trivial
  · exact hr
theorem noGd_ne {x : AV} {j : Nat} {b want : Bool} {y : AV} : noGd x ≠ .gd j b want y := by
  unfold noGd; split
  · simp
  · rename_i hne; exact fun e => hne _ _ _ _ e
theorem put_size (a : Act) (dst : Option Tmp) (v : Value) : (a.put dst v).tmps.size = a.tmps.size := by cases dst <;> simp [Act.put]
theorem put_defers (a : Act) (dst : Option Tmp) (v : Value) : (a.put dst v).defers = a.defers := by cases dst <;> simp [Act.put]
theorem norm_sound (ok : EnvOK P E) (rel : Rel E B N w0 S0 β0 s a w S β) (hg : GuardOK a g) (hd : ∀ d, o.dst = some d → d < N) {ws : List Nat} (hn : (norm E g s o).val = some (s', ws)) : StepOK P E B N w0 S0 β0 o a w s' := by
  unfold norm at hn
  rw [T.bind_some] at hn
  obtain ⟨p, hp, hn⟩ := hn
  rw [T.ret_some] at hn
  cases hn
  intro K Q hK
  refine eff_sound ok rel.inv (rel.args hg) (rel.picks hg) hp K Q fun v w' S' β' inv' gr hv => hK _ _ ⟨S', β', inv', ?_, ?_, rel.below.trans gr.below, fun b hb => gr.sub b (rel.sub b hb), fun b hb => (gr.news b hb).elim (rel.news b) .inr, fun k x hi hm hx => rel.fix k x hi hm (gr.old k x hi hx), by rw [put_size]; exact rel.size, by rw [put_defers]; exact rel.defers⟩
  · exact TOK.put (fun n => gr.rv (rel.tok n)) (fun d hdd => by rw [rel.size]; exact hd d hdd) (noGd_rv hv)
  · exact rel.gd.set _ _ fun d j b want x _ hx => absurd hx noGd_ne

/-- An append to an own slice. -/
theorem killA_gd {k : List Nat} {x : AV} {j : Nat} {b want : Bool} {y : AV} (hx : killA k x = .gd j b want y) : x = .gd j b want y := by
  unfold killA at hx; split at hx
  · cases hx
  · exact hx
theorem GdOK.kill (hg : GdOK t a) (k : List Nat) : GdOK (t.map fun p => (p.1, killA k p.2)) a := by
  intro n j b want x hn
  rw [getT_map t (killA k) rfl n] at hn
  obtain ⟨h1, h2⟩ := hg n j b want x (killA_gd hn)
  exact ⟨by rw [mget_map]; cases hm : mget t j <;> simp_all, h2⟩
theorem isIn_true {k : Nat} : isIn k = true ↔ inK k := by
  unfold isIn inK
  simp
theorem kfin_sound (rel : Rel E B N w0 S0 β0 s a w S β) (hd : ∀ d, o.dst = some d → d < N) {p : AV × Heap × List Nat} (hk : KOK P E B o a w S β s.h p.1 p.2.1 p.2.2) {wr : Option (List Nat × List Nat)} (hn : (kfin E s o.dst p).val = some (s', wr)) : StepOK P E B N w0 S0 β0 o a w s' := by
  unfold kfin at hn
  split at hn
  · rename_i hmv
    rw [T.ret_some] at hn
    cases hn
    intro K Q hK
    refine hk K Q fun v w' S' β' inv' gr hv => hK _ _ ⟨S', β', inv', ?_, ?_, rel.below.trans gr.below, fun b hb => gr.sub b (rel.sub b hb), fun b hb => (gr.news b hb).elim (rel.news b) .inr, fun k x hi hm hx => rel.fix k x hi hm (gr.old k x hi (fun hk => ?_) hx), by rw [put_size]; exact rel.size, by rw [put_defers]; exact rel.defers⟩
    · refine TOK.put (fun n => ?_) (fun d hdd => by rw [rel.size]; exact hd d hdd) (noGd_rv hv)
      show RV w' S' β' (getT (s.t.map fun q => (q.1, killA p.2.2 q.2)) n) _
      rw [getT_map s.t (killA p.2.2) rfl n]
      exact killA_rv (fun y u hy hu => gr.rv hy hu) (rel.tok n)
    · exact (rel.gd.kill _).set _ _ fun d j b want x _ hx => absurd hx noGd_ne
    · have := List.all_eq_true.1 hmv k hk
      rw [isIn_true.2 hi, hm] at this
      cases this
  · rw [T.fail_some] at hn; exact hn.elim
theorem appOwn_sound (ok : EnvOK P E) (inv : Inv E B w S β h) {ty : TypeId} {x y : Operand} {j : Nat} {uy : AV} (hx : RV w S β (.own j) (a.eval x)) (hy : RV w S β uy (a.eval y))
    (ho : o.op = .call ⟨.builtin .append, #[x, y], #[ty, ty]⟩) {p : AV × Heap × List Nat} (hn : (appOwn E (mget h) ty j uy).val = some p) : KOK P E B o a w S β h p.1 p.2.1 p.2.2 := by
  have hT := ok.ty
  unfold appOwn at hn
  split at hn
  · rw [T.fail_some] at hn; exact hn.elim
  · rename_i hjy
    have hjy := elem_false hjy
    split at hn
    · rename_i rs hrs
      split at hn
      · rename_i ti hti
        split at hn
        · rename_i bl hbl
          split at hn
          · rw [T.fail_some] at hn; exact hn.elim
          · rename_i hck
            simp only [Bool.or_eq_false_iff, Bool.not_eq_false'] at hck
            obtain ⟨⟨⟨⟨h4, heb⟩, hty⟩, hsz⟩, hbox⟩ := hck
            have heb := beq_false.1 heb
            have hsz := beq_true.1 hsz
            have h4 := beq_false.1 h4
            have hty := beq_true.1 hty
            simp only [T.ifB_some, T.ret_some, T.fail_some, and_false, or_false, Bool.and_eq_true] at hn
            obtain ⟨⟨hb, hall⟩, rfl⟩ := hn
            have hb : (bl.rows.length + rs.length) * ti.ebytes ≤ 140737488355328 := by simpa [maxRoom] using hb
            have hall : ∀ r ∈ rs, r.length = ti.esize := fun r hr => beq_true.1 (List.all_eq_true.1 hall r hr)
            obtain ⟨i, dd, z, sp⟩ := hT.spec hti
            obtain ⟨ei, ez, rfl, e1, e2, e3, e4, e5, e6, e7⟩ := sp.elem h4
            obtain ⟨A, cap, news, src⟩ := src_ok inv h4 hy hrs hall
            obtain ⟨X, hX, hv1, hv2⟩ := rv_own hx
            obtain ⟨bl', hbl', hr1, hr2⟩ := inv.dom j X hX
            rw [hbl] at hbl'
            cases hbl'
            have hexec : ∀ vv ww, (Builtin.append_ #[ty, ty] o.type #[a.eval x, .slice A rs.length cap]).run P w = .ok vv ww → (execOp a.eval o).run P w = .ok (.value vv) ww := by
              intro vv ww hrun
              simp [execOp, ho, resolve, invoke, builtin, src.val, hrun]
            have ebytes_le : rs.length * ti.ebytes ≤ 140737488355328 := Nat.le_trans (Nat.mul_le_mul_right _ (by omega)) hb
            -- how it ends
            have fin : ∀ (x' : BI) (w' : World) (vv : Value), (Builtin.append_ #[ty, ty] o.type #[a.eval x, .slice A rs.length cap]).run P w = .ok vv w' → x'.real = true → GrK B [j] w S β w' S (upd β j x') →
                (∀ k y, k ≠ j → β k = some y → y.real = true → w'.heap[y.b]? = w.heap[y.b]?) → ((∃ y, β j = some y ∧ y.real = true ∧ x'.b = y.b) ∨ w.heap.size ≤ x'.b) → x'.b < w'.heap.size →
                BlkOK w' S (upd β j x') ⟨false, ti.elem, ti.esize, bl.rows ++ rs⟩ x' → vv = .slice (some ⟨x'.b, 0, none⟩) x'.len x'.cap →
                KOK P E B o a w S β h (.own j) [(j, ⟨false, ti.elem, ti.esize, bl.rows ++ rs⟩)] [j] := by
              intro x' w' vv hrun hreal gj hold hnew hlt hblk hvv K Q hK
              unfold Oper.wp
              rw [hexec _ _ hrun, Oper.upon_value]
              exact hK _ _ S (upd β j x') (inv_put inv x' _ hreal gj hold hnew hlt hblk) gj ⟨x', upd_self _ _ _, fun _ => hvv, fun hf => by rw [hreal] at hf; cases hf⟩
            by_cases hne : rs = []
            · -- nothing is appended
              subst hne
              have hval : ∃ base n c, a.eval x = .slice base n c ∧ n ≤ c := by
                cases hre : X.real
                · obtain ⟨A', hA'⟩ := hv2 hre; exact ⟨_, _, _, hA', Nat.le_refl _⟩
                · obtain ⟨cs, tyy, c1, c2, c3, c4, c5, _⟩ := hr1 hre; exact ⟨_, _, _, hv1 hre, c4⟩
              obtain ⟨base, n, c, hval, hnc⟩ := hval
              have hrun := run_app_none (P := P) (w := w) ty o.type ti.elem ei sp.und e1 base n c hnc A cap
              rw [← hval] at hrun
              intro K Q hK
              unfold Oper.wp
              rw [hexec _ _ hrun, Oper.upon_value]
              have gj : GrK B [j] w S β w S β := ⟨Blw.refl _ _, fun _ _ => rfl, fun _ h => h, fun _ h => .inl h, fun _ _ _ h => h, fun _ _ _ _ h => h⟩
              refine hK _ _ S β ?_ gj hx
              refine ⟨inv.base, inv.lt, inv.inj, inv.new, fun k x1 h1 => ?_, fun k b1 h1 => ?_, inv.glob⟩
              · by_cases ek : k = j
                · subst ek
                  rw [hX] at h1
                  cases h1
                  refine ⟨⟨false, ti.elem, ti.esize, bl.rows ++ []⟩, by simp only [msets]; rw [mget_mset, if_pos rfl], fun hre => ?_, fun hre => ⟨by simpa using (hr2 hre).1, rfl⟩⟩
                  obtain ⟨cs, tyy, c1, c2, c3, c4, c5, c6, c7, c8⟩ := hr1 hre
                  refine ⟨cs, tyy, c1, c2, by simpa using c3, c4, c5, fun _ => ⟨by rw [(c6 hbox).1, hty], by rw [(c6 hbox).2, hsz]⟩, (fun hh => by cases hh), fun i row hi => ?_⟩
                  simp only [List.append_nil] at hi
                  refine ⟨(c8 i row hi).1, fun q y hq => ?_⟩
                  obtain ⟨u, hu, hru⟩ := (c8 i row hi).2 q y hq
                  rw [hbox] at hru
                  exact ⟨u, hu, by simpa using hru⟩
                · obtain ⟨b1, a1, a2, a3⟩ := inv.dom k x1 h1
                  exact ⟨b1.kill [j], by simp only [msets]; rw [mget_mset, if_neg ek, mget_map, a1]; rfl, fun hr => (a2 hr).kill gj rfl, fun hr => kill_virt (a3 hr)⟩
              · simp only [msets] at h1
                rw [mget_mset] at h1
                by_cases ek : k = j
                · subst ek; exact ⟨X, hX⟩
                · rw [if_neg ek, mget_map] at h1
                  cases hk : mget h k with
                  | none => rw [hk] at h1; cases h1
                  | some b2 => exact inv.cov k b2 hk
            · obtain ⟨ad, rfl, hcells⟩ := src.cells hne
              have hpos := List.length_pos_iff.2 hne
              cases hre : X.real
              · -- it was nil
                obtain ⟨A0, hA0⟩ := hv2 hre
                obtain ⟨hrows, _⟩ := hr2 hre
                obtain ⟨c', cs, r1, r2, r3, r4, r5⟩ := run_app_zero (P := P) (w := w) ty o.type ti.elem ei ez sp.und e1 e4 (by rw [e5, e2]) A0 ad rs.length cap news (by rw [src.len, e2]) hcells hpos src.lt (by rw [e3]; exact ebytes_le)
                rw [← hA0] at r1
                have gj : GrK B [j] w S β (w.drew.alloc (.cells cs ti.elem)) S (upd β j ⟨true, w.heap.size, rs.length, c', ti.esize⟩) :=
                  ⟨((gr_drew B w S β).below).trans ((Blw.refl B w.drew).alloc (show ∀ k, B k → k < w.drew.heap.size from inv.base) _), fun b hb => heap_alloc_old w.drew _ (inv.lt b hb), fun _ h => h, fun _ h => .inl h, fun k x hk hx => by rw [upd_ne β _ (by simpa using hk)]; exact hx, fun k x _ hk hx => by rw [upd_ne β _ (by simpa using hk)] at hx; exact hx⟩
                refine fin ⟨true, w.heap.size, rs.length, c', ti.esize⟩ _ _ r1 rfl gj (fun k y hk hy hr => heap_alloc_old w.drew _ (inv.new k y hy hr).2.1) (.inr (Nat.le_refl _)) (by simp) ?_ rfl
                rw [hrows, List.nil_append]
                refine ⟨cs, ti.elem, heap_alloc_new w.drew _, by simp only [r2, e2], rfl, r3, r4, fun _ => ⟨rfl, rfl⟩, (fun hh => by cases hh), fun i1 row hi1 => ⟨hall row (List.mem_of_getElem? hi1), fun q x1 hq => ?_⟩⟩
                obtain ⟨y1, hy1, hr⟩ := src.rep i1 row q x1 hi1 hq
                have hlt : i1 * ti.esize + q < rs.length * ei.size := by
                  have := (List.getElem?_eq_some_iff.1 hy1).1; rw [src.len] at this; rw [e2]; exact this
                exact ⟨y1, by rw [r5 _ hlt]; exact hy1, by simp only [Bool.false_eq_true, if_false]; exact hr.mono gj.keep fun _ h => h⟩
              · -- it had memory
                obtain ⟨cs, tyy, c1, c2, c3, c4, c5, c6, c7, c8⟩ := hr1 hre
                have hty2 : tyy = ti.elem := by rw [(c6 hbox).1, hty]
                have hxs : X.size = ti.esize := by rw [(c6 hbox).2, hsz]
                subst hty2
                have hev := hv1 hre
                have h63 : bl.rows.length + rs.length ≤ 9223372036854775807 ∨ True := .inr trivial
                have hlen : bl.rows.length = X.len := c3
                have hbytes : (X.len + rs.length) * ei.bytes ≤ 140737488355328 := by rw [e3, ← hlen]; exact hb
                have hsrc : ∀ i1 row q x1, rs[i1]? = some row → row[q]? = some x1 → ∃ y1, news[i1 * ti.esize + q]? = some y1 ∧ R0 w S x1 y1 := fun i1 row q x1 h1 h2 => src.rep i1 row q x1 h1 h2
                have hrowget : ∀ (i1 : Nat) (row : Row), (bl.rows ++ rs)[i1]? = some row → (i1 < bl.rows.length ∧ bl.rows[i1]? = some row) ∨ (bl.rows.length ≤ i1 ∧ rs[i1 - bl.rows.length]? = some row) := by
                  intro i1 row hi1
                  rw [List.getElem?_append] at hi1
                  split at hi1
                  · exact .inl ⟨‹_›, hi1⟩
                  · exact .inr ⟨by omega, hi1⟩
                by_cases hroom : X.len + rs.length ≤ X.cap
                · have hfit : X.len * ei.size + news.length ≤ cs.size := by
                    rw [c2, src.len, hxs, e2, ← Nat.add_mul]; exact Nat.mul_le_mul_right _ hroom
                  have hrun := run_append_room (P := P) w ty o.type ti.elem ei sp.und e1 X.b X.len X.cap cs c1 ad rs.length cap news (by rw [src.len, e2]) hcells src.one hroom hfit
                  rw [← hev] at hrun
                  have hcell : ∀ q, (cs.toList.take (X.len * ei.size) ++ news ++ cs.toList.drop (X.len * ei.size + news.length))[q]? = if q < X.len * ei.size then cs[q]? else if q < X.len * ei.size + news.length then news[q - X.len * ei.size]? else cs[q]? := by
                    intro q
                    rw [splice_get (by simpa using hfit)]
                    simp
                  have hNl : (cs.toList.take (X.len * ei.size) ++ news ++ cs.toList.drop (X.len * ei.size + news.length)).length = cs.size := by
                    simp only [List.length_append, List.length_take, List.length_drop, Array.length_toList]; omega
                  generalize (cs.toList.take (X.len * ei.size) ++ news ++ cs.toList.drop (X.len * ei.size + news.length)) = NN at hrun hcell hNl
                  have g0 := gr_set inv hX hre NN.toArray
                  have gj : GrK B [j] w S β (w.setRow X.b NN.toArray) S (upd β j ⟨true, X.b, X.len + rs.length, X.cap, X.size⟩) := ⟨g0.below, g0.keep, fun _ h => h, fun _ h => .inl h, fun k x hk hx => by rw [upd_ne β _ (by simpa using hk)]; exact hx, fun k x _ hk hx => by rw [upd_ne β _ (by simpa using hk)] at hx; exact hx⟩
                  refine fin ⟨true, X.b, X.len + rs.length, X.cap, X.size⟩ _ _ hrun rfl gj (fun k y hk hy hr => setRow_other w X.b y.b _ (fun eb => hk (inv.inj k j y X hy hX hr hre eb))) (.inl ⟨X, hX, hre, rfl⟩) (by simpa using (inv.new j X hX hre).2.1) ?_ rfl
                  refine ⟨NN.toArray, ti.elem, setRow_heap w X.b cs _ ti.elem _ c1, by simp [hNl, c2], by simp [hlen], hroom, c5, fun _ => ⟨rfl, hxs⟩, (fun hh => by cases hh), fun i1 row hi1 => ?_⟩
                  rcases hrowget i1 row hi1 with ⟨hlt, hi⟩ | ⟨hge, hi⟩
                  · refine ⟨(c8 i1 row hi).1, fun q x1 hq => ?_⟩
                    obtain ⟨u, hu, hru⟩ := (c8 i1 row hi).2 q x1 hq
                    have hql : q < X.size := by rw [← (c8 i1 row hi).1]; exact (List.getElem?_eq_some_iff.1 hq).1
                    have h3 : (i1 + 1) * X.size ≤ X.len * X.size := Nat.mul_le_mul_right _ (by omega)
                    rw [Nat.add_mul] at h3
                    rw [hbox] at hru
                    exact ⟨u, by show NN.toArray[i1 * X.size + q]? = some u; rw [List.getElem?_toArray, hcell, if_pos (by rw [e2, ← hxs]; omega)]; exact hu, by simp only [Bool.false_eq_true, if_false] at hru ⊢; exact hru.mono gj.keep fun _ h => h⟩
                  · refine ⟨by rw [hxs]; exact hall row (List.mem_of_getElem? hi), fun q x1 hq => ?_⟩
                    obtain ⟨u, hu, hru⟩ := hsrc _ row q x1 hi hq
                    have hql : (i1 - bl.rows.length) * ti.esize + q < rs.length * ti.esize := by have := (List.getElem?_eq_some_iff.1 hu).1; rw [src.len] at this; exact this
                    have hi1e : i1 * X.size = X.len * ei.size + (i1 - bl.rows.length) * ti.esize := by rw [hxs, e2, ← Nat.add_mul]; congr 1; omega
                    refine ⟨u, ?_, by simp only [Bool.false_eq_true, if_false]; exact hru.mono gj.keep fun _ h => h⟩
                    show NN.toArray[i1 * X.size + q]? = some u
                    rw [List.getElem?_toArray, hcell, hi1e, if_neg (by omega), if_pos (by rw [src.len]; omega), ← hu]
                    congr 1
                    omega
                · have holds : ∀ q x1, (cs.toList.take (X.len * ei.size))[q]? = some x1 → w.cell? ((⟨X.b, 0, none⟩ : Addr).add q) = some x1 := by
                    intro q x1 hq
                    rw [List.getElem?_take] at hq
                    split at hq
                    · rw [add_lit]; simp only [World.cell?, c1]; simpa using hq
                    · cases hq
                  have hol : (cs.toList.take (X.len * ei.size)).length = X.len * ei.size := by
                    simp only [List.length_take, Array.length_toList, c2, hxs, e2]
                    have := Nat.mul_le_mul_right ti.esize c4
                    omega
                  have hneed : X.len + rs.length ≤ 9223372036854775807 := by
                    have := Nat.le_mul_of_pos_right (X.len + rs.length) (Nat.pos_of_ne_zero (show ei.bytes ≠ 0 by rw [e3]; exact heb)); omega
                  have hrun := run_append_grow (P := P) w ty o.type ti.elem ei ez sp.und e1 e4 ⟨X.b, 0, none⟩ X.len X.cap _ hol holds ad rs.length cap news (by rw [src.len, e2]) hcells (by omega) (by omega) (growslice_fits (by omega) hbytes)
                  rw [← hev] at hrun
                  have hge := grownCap_ge w (X.len + rs.length) X.cap ti.elem
                  have hcm : grownCap w (X.len + rs.length) X.cap ti.elem ≤ 9223372036854775807 := grownCap_le_maxLen w _ X.cap ti.elem hneed
                  generalize grownCap w (X.len + rs.length) X.cap ti.elem = C at hrun hge hcm
                  have hcs : ((cs.toList.take (X.len * ei.size)).toArray ++ news.toArray ++ Builtin.zeroCells ez.cells (C - (X.len + rs.length))).size = C * ti.esize := by
                    simp only [Array.size_append, List.size_toArray, size_zeroCells, hol, src.len, e5]
                    rw [e2, ← Nat.add_mul, ← Nat.add_mul]
                    congr 1; omega
                  have hcell : ∀ q, ((cs.toList.take (X.len * ei.size)).toArray ++ news.toArray ++ Builtin.zeroCells ez.cells (C - (X.len + rs.length)))[q]? = if q < X.len * ei.size then cs[q]? else if q < X.len * ei.size + news.length then news[q - X.len * ei.size]? else ((cs.toList.take (X.len * ei.size)).toArray ++ news.toArray ++ Builtin.zeroCells ez.cells (C - (X.len + rs.length)))[q]? := by
                    intro q
                    split
                    · rw [Array.append_assoc, Array.getElem?_append_left (by rw [List.size_toArray, hol]; assumption), List.getElem?_toArray, List.getElem?_take, if_pos ‹_›]
                      simp
                    · split
                      · rw [Array.getElem?_append_left (by simp only [Array.size_append, List.size_toArray, hol]; assumption), Array.getElem?_append_right (by rw [List.size_toArray, hol]; omega)]
                        simp [hol]
                      · rfl
                  generalize ((cs.toList.take (X.len * ei.size)).toArray ++ news.toArray ++ Builtin.zeroCells ez.cells (C - (X.len + rs.length))) = NN at hrun hcell hcs
                  have gj : GrK B [j] w S β (w.drew.alloc (.cells NN ti.elem)) S (upd β j ⟨true, w.heap.size, X.len + rs.length, C, ti.esize⟩) :=
                    ⟨((gr_drew B w S β).below).trans ((Blw.refl B w.drew).alloc (show ∀ k, B k → k < w.drew.heap.size from inv.base) _), fun b hb => heap_alloc_old w.drew _ (inv.lt b hb), fun _ h => h, fun _ h => .inl h, fun k x hk hx => by rw [upd_ne β _ (by simpa using hk)]; exact hx, fun k x _ hk hx => by rw [upd_ne β _ (by simpa using hk)] at hx; exact hx⟩
                  refine fin ⟨true, w.heap.size, X.len + rs.length, C, ti.esize⟩ _ _ hrun rfl gj (fun k y hk hy hr => heap_alloc_old w.drew _ (inv.new k y hy hr).2.1) (.inr (Nat.le_refl _)) (by simp) ?_ rfl
                  refine ⟨NN, ti.elem, heap_alloc_new w.drew _, hcs, by simp [hlen], hge, hcm, fun _ => ⟨rfl, rfl⟩, (fun hh => by cases hh), fun i1 row hi1 => ?_⟩
                  rcases hrowget i1 row hi1 with ⟨hlt, hi⟩ | ⟨hge', hi⟩
                  · refine ⟨by rw [(c8 i1 row hi).1, hxs], fun q x1 hq => ?_⟩
                    obtain ⟨u, hu, hru⟩ := (c8 i1 row hi).2 q x1 hq
                    have hql : q < X.size := by rw [← (c8 i1 row hi).1]; exact (List.getElem?_eq_some_iff.1 hq).1
                    have h3 : (i1 + 1) * X.size ≤ X.len * X.size := Nat.mul_le_mul_right _ (by omega)
                    rw [Nat.add_mul] at h3
                    rw [hbox] at hru
                    refine ⟨u, ?_, by simp only [Bool.false_eq_true, if_false] at hru ⊢; exact hru.mono gj.keep fun _ h => h⟩
                    show NN[i1 * ti.esize + q]? = some u
                    rw [← hxs, hcell, if_pos (by rw [e2, ← hxs]; omega)]; exact hu
                  · refine ⟨hall row (List.mem_of_getElem? hi), fun q x1 hq => ?_⟩
                    obtain ⟨u, hu, hru⟩ := hsrc _ row q x1 hi hq
                    have hql : (i1 - bl.rows.length) * ti.esize + q < rs.length * ti.esize := by have := (List.getElem?_eq_some_iff.1 hu).1; rw [src.len] at this; exact this
                    have hi1e : i1 * ti.esize = X.len * ei.size + (i1 - bl.rows.length) * ti.esize := by rw [e2, ← Nat.add_mul]; congr 1; omega
                    refine ⟨u, ?_, by simp only [Bool.false_eq_true, if_false]; exact hru.mono gj.keep fun _ h => h⟩
                    show NN[i1 * ti.esize + q]? = some u
                    rw [hcell, hi1e, if_neg (by omega), if_pos (by rw [src.len]; omega), ← hu]
                    congr 1
                    omega
        · rw [T.fail_some] at hn; exact hn.elim
      · rw [T.fail_some] at hn; exact hn.elim
    · rw [T.fail_some] at hn; exact hn.elim
end

end

section

variable {P : Program} {E : Env}
section
variable {B : Nat → Prop} {o : Oper} {a : Act} {w w' : World} {S S' : Nat → Prop} {β β' : Nat → Option BI} {h : Heap} {av : AV} {v : Value} {hg : Nat → Option Blk}
theorem mem_addK : ∀ {l acc : List Nat} {k : Nat}, k ∈ addK acc l ↔ k ∈ acc ∨ k ∈ l
  | [], acc, k => by simp [addK]
  | j :: l, acc, k => by
    simp only [addK]
    split
    · rename_i hj
      rw [mem_addK (l := l)]
      have := elem_true hj
      simp only [List.mem_cons]
      constructor
      · rintro (h | h)
        · exact .inl h
        · exact .inr (.inr h)
      · rintro (h | h | h)
        · exact .inl h
        · subst h; exact .inl this
        · exact .inr h
    · rw [mem_addK (l := l)]
      simp only [List.mem_append, List.mem_cons, List.mem_nil_iff, or_false]
      constructor
      · rintro ((h | h) | h)
        · exact .inl h
        · exact .inr (.inl h)
        · exact .inr (.inr h)
      · rintro (h | h | h)
        · exact .inl (.inl h)
        · exact .inl (.inr h)
        · exact .inr h
theorem mem_reach : ∀ (n : Nat) {ks : List Nat} {k : Nat}, k ∈ ks → k ∈ reach hg n ks
  | 0, ks, k, h => h
  | n + 1, ks, k, h => mem_reach n (mem_addK.2 (.inl h))
theorem reach_congr {hg' : Nat → Option Blk} : ∀ (n : Nat) {ks : List Nat}, (∀ k ∈ reach hg n ks, hg' k = hg k) → reach hg' n ks = reach hg n ks
  | 0, ks, _ => rfl
  | n + 1, ks, hh => by
    have e : ks.flatMap (refsH hg') = ks.flatMap (refsH hg) := by
      rw [List.flatMap_def, List.flatMap_def]
      congr 1
      refine List.map_congr_left fun k hk => ?_
      unfold refsH
      rw [hh k (mem_reach (n + 1) hk)]
    show reach hg' n (addK ks (ks.flatMap (refsH hg'))) = reach hg n (addK ks (ks.flatMap (refsH hg)))
    rw [e]
    exact reach_congr n hh
theorem reach_congr' {hg' : Nat → Option Blk} : ∀ (n : Nat) {ks : List Nat}, (∀ k ∈ reach hg n ks, hg' k = hg k) → reach hg' (n + 1) ks = reach hg (n + 1) ks
  | 0, ks, hh => by
    have e : ks.flatMap (refsH hg') = ks.flatMap (refsH hg) := by
      rw [List.flatMap_def, List.flatMap_def]
      congr 1
      refine List.map_congr_left fun k hk => ?_
      unfold refsH
      rw [hh k hk]
    show addK ks (ks.flatMap (refsH hg')) = addK ks (ks.flatMap (refsH hg))
    rw [e]
  | n + 1, ks, hh => by
    have e : ks.flatMap (refsH hg') = ks.flatMap (refsH hg) := by
      rw [List.flatMap_def, List.flatMap_def]
      congr 1
      refine List.map_congr_left fun k hk => ?_
      unfold refsH
      rw [hh k (mem_reach (n + 1) hk)]
    show reach hg' (n + 1) (addK ks (ks.flatMap (refsH hg'))) = reach hg (n + 1) (addK ks (ks.flatMap (refsH hg)))
    rw [e]
    exact reach_congr' n hh
theorem mem_reach_succ : ∀ (n : Nat) {ks : List Nat} {k j : Nat} {b : Blk}, k ∈ reach hg n ks → hg k = some b → j ∈ blkRefs b → j ∈ reach hg (n + 1) ks
  | 0, ks, k, j, b, hk, hb, hj => by
    show j ∈ addK ks (ks.flatMap (refsH hg))
    exact mem_addK.2 (.inr (List.mem_flatMap.2 ⟨k, hk, by unfold refsH; rw [hb]; exact hj⟩))
  | n + 1, ks, k, j, b, hk, hb, hj => mem_reach_succ n hk hb hj
theorem closedK_spec {ks : List Nat} (hc : closedK hg ks = true) : ∀ k ∈ ks, ∃ b, hg k = some b ∧ ∀ j ∈ blkRefs b, j ∈ ks := by
  intro k hk
  have := List.all_eq_true.1 hc k hk
  cases hb : hg k with
  | none => rw [hb] at this; cases this
  | some b =>
    rw [hb] at this
    exact ⟨b, rfl, fun j hj => elem_true (List.all_eq_true.1 this j hj)⟩
theorem refsC_sub {x : AV} {k : Nat} (hk : k ∈ refsC x) : k ∈ refs2 x := by
  cases x <;> first | exact hk | (simp [refsC, refs0] at hk)
theorem BlkOK.ren {f : Nat → Nat} {bl : Blk} {x : BI} (hβ : ∀ k ∈ blkRefs bl, ∀ y, β k = some y → β' (f k) = some y) (hk : BlkOK w S β bl x) : BlkOK w S β' (bl.ren f) x := by
  obtain ⟨cs, ty, c1, c2, c3, c4, c5, c6, c7, c8⟩ := hk
  unfold Blk.ren
  split
  · rename_i hbx
    refine ⟨cs, ty, c1, c2, by simpa using c3, c4, c5, c6, c7, fun i row hi => ?_⟩
    simp only [List.getElem?_map, Option.map_eq_some_iff] at hi
    obtain ⟨row0, hi0, rfl⟩ := hi
    obtain ⟨c9, c10⟩ := c8 i row0 hi0
    refine ⟨by simpa using c9, fun q y0 hq => ?_⟩
    simp only [List.getElem?_map, Option.map_eq_some_iff] at hq
    obtain ⟨y1, hq1, rfl⟩ := hq
    obtain ⟨v1, hv1, hr1⟩ := c10 q y1 hq1
    rw [hbx] at hr1
    refine ⟨v1, hv1, ?_⟩
    rw [hbx]
    simp only [if_true] at hr1 ⊢
    refine renC_rc (fun k hk => hβ k ?_) hr1
    unfold blkRefs
    rw [hbx]
    simp only [List.mem_flatMap]
    exact ⟨row0, List.mem_of_getElem? hi0, y1, List.mem_of_getElem? hq1, refsC_sub hk⟩
  · rename_i hbx
    refine ⟨cs, ty, c1, c2, c3, c4, c5, c6, c7, fun i row hi => ?_⟩
    obtain ⟨c9, c10⟩ := c8 i row hi
    refine ⟨c9, fun q y0 hq => ?_⟩
    obtain ⟨v1, hv1, hr1⟩ := c10 q y0 hq
    rw [hbx] at hr1
    exact ⟨v1, hv1, by rw [hbx]; simpa using hr1⟩
theorem ren_virt {f : Nat → Nat} {bl : Blk} (hv : bl.rows = [] ∧ bl.box = false) : (bl.ren f).rows = [] ∧ (bl.ren f).box = false := by
  unfold Blk.ren
  rw [hv.2]
  exact hv
theorem inHeap_of {ks : List Nat} : ∀ {l : List Nat} {acc : Heap} {k' : Nat} {bl : Blk}, mget (inHeap hg ks l acc) k' = some bl → (∃ k ∈ l, k' = inKey ks k ∧ ∃ b, hg k = some b ∧ bl = b.ren (inKey ks)) ∨ mget acc k' = some bl
  | [], acc, k', bl, hh => .inr hh
  | k :: l, acc, k', bl, hh => by
    simp only [inHeap] at hh
    split at hh
    · rename_i b hb
      rcases inHeap_of (l := l) hh with ⟨k1, h1, h2⟩ | h1
      · exact .inl ⟨k1, by simp [h1], h2⟩
      · simp only [mget] at h1
        split at h1
        · rename_i he
          cases h1
          exact .inl ⟨k, by simp, beq_true.1 he, b, hb, rfl⟩
        · exact .inr h1
    · rcases inHeap_of (l := l) hh with ⟨k1, h1, h2⟩ | h1
      · exact .inl ⟨k1, by simp [h1], h2⟩
      · exact .inr h1
theorem inHeap_acc {ks : List Nat} : ∀ {l : List Nat} {acc : Heap} {k' : Nat}, mget acc k' ≠ none → mget (inHeap hg ks l acc) k' ≠ none
  | [], acc, k', hh => hh
  | k :: l, acc, k', hh => by
    simp only [inHeap]
    split
    · refine inHeap_acc (l := l) ?_
      simp only [mget]
      split
      · simp
      · exact hh
    · exact inHeap_acc (l := l) hh
theorem inHeap_some {ks : List Nat} : ∀ {l : List Nat} {acc : Heap} {k : Nat}, k ∈ l → hg k ≠ none → mget (inHeap hg ks l acc) (inKey ks k) ≠ none
  | j :: l, acc, k, hk, hb => by
    simp only [inHeap]
    by_cases e : k = j
    · subst e
      cases hj : hg k with
      | none => exact absurd hj hb
      | some b =>
        refine inHeap_acc ?_
        simp [mget]
    · have hl : k ∈ l := by rcases List.mem_cons.1 hk with h | h; exact absurd h e; exact h
      split
      · exact inHeap_some hl hb
      · exact inHeap_some hl hb
theorem mget_mapK {f : Nat → Nat} {g : Blk → Blk} : ∀ {m : Heap} {k : Nat}, (∀ p ∈ m, f p.1 = f k → p.1 = k) → mget (m.map fun q => (f q.1, g q.2)) (f k) = (mget m k).map g
  | [], k, _ => rfl
  | (j, b) :: m, k, hi => by
    simp only [List.map_cons, mget]
    by_cases e : k = j
    · subst e
      rw [beq_true.2 rfl, beq_true.2 rfl]; rfl
    · rw [beq_false.2 e, beq_false.2 (fun e2 => e (hi (j, b) (by simp) e2.symm).symm)]
      exact mget_mapK fun p hp => hi p (by simp [hp])
theorem keysNodup_of : ∀ {m : Heap}, (m.map (·.1)).Nodup → keysNodup m = true
  | [], _ => rfl
  | p :: m, h => by
    simp only [List.map_cons, List.nodup_cons] at h
    simp only [keysNodup]
    have : (m.map (·.1)).elem p.1 = false := by rw [← Bool.not_eq_true]; exact fun hh => h.1 (elem_true hh)
    rw [this]
    exact keysNodup_of h.2
theorem mget_ne {m : Heap} {k : Nat} (hk : k ∈ m.map (·.1)) : ∃ b, mget m k = some b := by
  induction m with
  | nil => simp at hk
  | cons p m ih =>
    obtain ⟨j, b⟩ := p
    simp only [mget]
    split
    · exact ⟨b, rfl⟩
    · rename_i hne
      simp only [List.map_cons, List.mem_cons] at hk
      rcases hk with h | h
      · exact absurd h (beq_false.1 hne)
      · exact ih h
/-- The callee's keys. -/
def keysIn (β : Nat → Option BI) (ks : List Nat) : Nat → Option BI := fun k => if 900 ≤ k then (ks[k - 900]?).bind β else none
theorem keysIn_some {ks : List Nat} {k' : Nat} {x : BI} (hh : keysIn β ks k' = some x) : ∃ k, ks[k' - 900]? = some k ∧ 900 ≤ k' ∧ β k = some x := by
  unfold keysIn at hh
  split at hh
  · rename_i hge
    rw [Option.bind_eq_some_iff] at hh
    obtain ⟨k, h1, h2⟩ := hh
    exact ⟨k, h1, hge, h2⟩
  · cases hh
theorem keysIn_at {ks : List Nat} {k : Nat} (hk : k ∈ ks) : keysIn β ks (inKey ks k) = β k := by
  unfold keysIn inKey
  rw [if_pos (by omega), show 900 + posIn ks k - 900 = posIn ks k by omega, posIn_get hk]
  rfl
theorem inKey_at {ks : List Nat} {i k : Nat} (hn : ks.Nodup) (hi : ks[i]? = some k) : inKey ks k = 900 + i := by
  have hk := List.mem_of_getElem? hi
  obtain ⟨l1, e1⟩ := List.getElem?_eq_some_iff.1 (posIn_get hk)
  obtain ⟨l2, e2⟩ := List.getElem?_eq_some_iff.1 hi
  unfold inKey
  rw [nodup_inj hn l1 l2 (by rw [e1, e2])]
theorem inKey_inj {ks : List Nat} {k k' : Nat} (hk : k ∈ ks) (hk' : k' ∈ ks) (e : inKey ks k = inKey ks k') : k = k' := by
  have h1 := posIn_get hk
  have h2 := posIn_get hk'
  unfold inKey at e
  rw [show posIn ks k = posIn ks k' by omega, h2] at h1
  cases h1; rfl
theorem inKey_lt {ks : List Nat} {k : Nat} (hk : k ∈ ks) : inKey ks k < 900 + ks.length := by
  obtain ⟨l1, _⟩ := List.getElem?_eq_some_iff.1 (posIn_get hk)
  unfold inKey; omega
theorem inv_in (inv : Inv E B w S β h) {ks : List Nat} (hcl : closedK (mget h) ks = true) (hnd : ks.Nodup) : InvG E.glob (ownFree w (keysIn β ks)) w S (keysIn β ks) (inHeap (mget h) ks ks []) := by
  have hcl := closedK_spec hcl
  refine ⟨fun b hb => hb.1, inv.lt, fun k k' x x' h1 h2 r1 r2 e => ?_, fun k x h1 r1 => ?_, fun k x h1 => ?_, fun k bl h1 => ?_, inv.glob⟩
  · obtain ⟨j, j1, j2, j3⟩ := keysIn_some h1
    obtain ⟨j', j1', j2', j3'⟩ := keysIn_some h2
    have := inv.inj j j' x x' j3 j3' r1 r2 e
    subst this
    obtain ⟨l1, e1⟩ := List.getElem?_eq_some_iff.1 j1
    obtain ⟨l2, e2⟩ := List.getElem?_eq_some_iff.1 j1'
    have := nodup_inj hnd l1 l2 (by rw [e1, e2])
    omega
  · obtain ⟨j, j1, j2, j3⟩ := keysIn_some h1
    obtain ⟨n1, n2, n3⟩ := inv.new j x j3 r1
    exact ⟨fun hh => hh.2 ⟨k, x, h1, r1, rfl⟩, n2, n3⟩
  · obtain ⟨j, j1, j2, j3⟩ := keysIn_some h1
    have hj := List.mem_of_getElem? j1
    obtain ⟨bl, b1, b2, b3⟩ := inv.dom j x j3
    obtain ⟨bl', c1, c2⟩ := hcl j hj
    rw [b1] at c1
    cases c1
    have hkey : inKey ks j = k := by rw [inKey_at hnd j1]; omega
    have : mget (inHeap (mget h) ks ks []) k = some (bl.ren (inKey ks)) := by
      cases hm : mget (inHeap (mget h) ks ks []) k with
      | none => rw [← hkey] at hm; exact absurd hm (inHeap_some hj (by rw [b1]; simp))
      | some b =>
        rcases inHeap_of hm with ⟨j', q1, q2, b', q3, rfl⟩ | hh
        · have := inKey_inj hj q1 (by rw [hkey, q2])
          subst this
          rw [b1] at q3
          cases q3; rfl
        · cases hh
    refine ⟨_, this, fun hr => ?_, fun hr => ren_virt (b3 hr)⟩
    refine (b2 hr).ren fun q hq y hy => ?_
    rw [keysIn_at (c2 q hq)]
    exact hy
  · rcases inHeap_of h1 with ⟨j, q1, q2, b, q3, rfl⟩ | hh
    · obtain ⟨x, hx⟩ := inv.cov j b q3
      exact ⟨x, by rw [q2, keysIn_at q1]; exact hx⟩
    · cases hh
theorem outKey_in {ks : List Nat} {d k : Nat} (hk : k ∈ ks) : outKey ks d (inKey ks k) = k := by
  unfold outKey inKey
  have : Nat.ble 900 (900 + posIn ks k) = true := by simp
  rw [this]
  simp only [List.getD_eq_getElem?_getD]
  rw [show 900 + posIn ks k - 900 = posIn ks k by omega, posIn_get hk]
  rfl
theorem nodup_mapK {f : Nat → Nat} : ∀ {l : List Nat}, l.Nodup → (∀ x ∈ l, ∀ y ∈ l, f x = f y → x = y) → (l.map f).Nodup
  | [], _, _ => List.nodup_nil
  | x :: l, hn, hi => by
    obtain ⟨h1, h2⟩ := List.nodup_cons.1 hn
    refine List.nodup_cons.2 ⟨fun hh => ?_, nodup_mapK h2 fun y hy z hz => hi y (by simp [hy]) z (by simp [hz])⟩
    obtain ⟨y, hy, e⟩ := List.mem_map.1 hh
    have := hi y (by simp [hy]) x (by simp) e
    subst this
    exact h1 hy
theorem inv_back (inv : Inv E B w S β h) {ks : List Nat} (hcl : closedK (mget h) ks = true) (hnd : ks.Nodup) (hlen : ks.length ≤ 99) {d : Nat} {nw : Bool} {H : Heap} {mv : List Nat} (hok : outFits E (mget h) ks d nw H mv = true)
    (hbl : Blw (ownFree w (keysIn β ks)) w w') (hsub : ∀ b, S b → S' b) (hnews : ∀ b, S' b → S b ∨ ¬ ownFree w (keysIn β ks) b) (inv' : InvG E.glob (ownFree w (keysIn β ks)) w' S' β' H)
    (hst : ∀ k x, inK k → k ∉ mv → β' k = some x → keysIn β ks k = some x) :
    ∃ β2, Inv E B w' S' β2 (msets (h.map fun p => (p.1, p.2.kill (mv.map (outKey ks d)))) (H.map fun q => (outKey ks d q.1, q.2.ren (outKey ks d)))) ∧ GrK B (mv.map (outKey ks d)) w S β w' S' β2 ∧ ∀ k x, β' k = some x → β2 (outKey ks d k) = some x := by
  have hcl := closedK_spec hcl
  unfold outFits at hok
  simp only [Bool.and_eq_true] at hok
  obtain ⟨⟨⟨⟨o1, o2⟩, o3⟩, o4⟩, o5⟩ := hok
  have o1 := nodupB_spec o1
  have o2 : ∀ q ∈ H, (900 ≤ q.1 ∧ ∃ k, ks[q.1 - 900]? = some k) ∨ (q.1 < 4 ∧ nw = true ∧ mget h (renK d q.1) = none) := by
    intro q hq
    have := List.all_eq_true.1 o2 q hq
    split at this
    · rename_i hge
      have hlt : q.1 - 900 < ks.length := by simpa using this
      exact .inl ⟨by simpa using hge, _, List.getElem?_eq_getElem hlt⟩
    · simp only [Bool.and_eq_true] at this
      refine .inr ⟨by simpa using this.1.2, this.1.1, ?_⟩
      have h2 := this.2
      split at h2
      · assumption
      · cases h2
  have o3 : ∀ k ∈ ks, inKey ks k ∈ H.map (·.1) := fun k hk => elem_true (List.all_eq_true.1 o3 k hk)
  have o4 : ∀ k ∈ mv, 900 ≤ k ∧ ∃ j, ks[k - 900]? = some j := fun k hk => by
    have := List.all_eq_true.1 o4 k hk
    simp only [Bool.and_eq_true] at this
    have hlt : k - 900 < ks.length := by simpa using this.2
    exact ⟨by simpa using this.1, _, List.getElem?_eq_getElem hlt⟩
  -- keys of H
  have hkey : ∀ k' b, mget H k' = some b → (∃ k ∈ ks, k' = inKey ks k ∧ outKey ks d k' = k) ∨ (k' < 4 ∧ nw = true ∧ outKey ks d k' = renK d k' ∧ mget h (renK d k') = none) := by
    intro k' b hb
    rcases o2 (k', b) (mget_mem hb) with ⟨h1, k, h2⟩ | ⟨h1, h2, h3⟩
    · simp only at h1 h2
      have hk := List.mem_of_getElem? h2
      have e : inKey ks k = k' := by rw [inKey_at hnd h2]; omega
      exact .inl ⟨k, hk, e.symm, by rw [← e, outKey_in hk]⟩
    · simp only at h1 h3
      refine .inr ⟨h1, h2, ?_, h3⟩
      unfold outKey
      have : Nat.ble 900 k' = false := by rw [← Bool.not_eq_true]; simp; omega
      rw [this]
  have hksome : ∀ k ∈ ks, mget h k ≠ none := fun k hk => by obtain ⟨b, hb, _⟩ := hcl k hk; rw [hb]; simp
  have hren : ∀ k', k' < 4 → mget h (renK d k') = none → renK d k' ∉ ks := fun k' _ hn hh => hksome _ hh hn
  let β2 : Nat → Option BI := fun k => if k ∈ ks then β' (inKey ks k) else match β k with
    | some x => some x
    | none => if renK d 0 ≤ k ∧ k < renK d 4 then β' (k - renK d 0) else none
  have bi : ∀ k' x, β' k' = some x → β2 (outKey ks d k') = some x := by
    intro k' x hx
    obtain ⟨b, hb, _⟩ := inv'.dom k' x hx
    rcases hkey k' b hb with ⟨k, hk, e1, e2⟩ | ⟨h1, _, h3, h4⟩
    · simp only [β2]; rw [e2, if_pos hk, ← e1]; exact hx
    · simp only [β2]
      rw [h3, if_neg (hren k' h1 h4), inv.fresh h4]
      simp only []
      rw [if_pos (by simp only [renK]; omega), show renK d k' - renK d 0 = k' by simp only [renK]; omega]
      exact hx
  have bc : ∀ k x, β2 k = some x → (k ∈ ks ∧ β' (inKey ks k) = some x) ∨ (k ∉ ks ∧ β k = some x) ∨ (∃ j, j < 4 ∧ k = renK d j ∧ β' j = some x ∧ outKey ks d j = k ∧ mget h k = none) := by
    intro k x hx
    simp only [β2] at hx
    split at hx
    · exact .inl ⟨‹_›, hx⟩
    · rename_i hk
      split at hx
      · rename_i y hy; cases hx; exact .inr (.inl ⟨hk, hy⟩)
      · split at hx
        · rename_i hge
          obtain ⟨b, hb, _⟩ := inv'.dom _ x hx
          rcases hkey _ b hb with ⟨k2, hk2, e1, e2⟩ | ⟨h1, h2, h3, h4⟩
          · exfalso
            have hge2 : 900 ≤ inKey ks k2 := by unfold inKey; omega
            simp only [renK] at hge e1; omega
          · have e : renK d (k - renK d 0) = k := by simp only [renK] at hge ⊢; omega
            refine .inr (.inr ⟨k - renK d 0, h1, e.symm, hx, by rw [h3, e], by rw [← e]; exact h4⟩)
        · cases hx
  -- blocks that no key of the caller's names
  have hofB : ∀ b, B b → ownFree w (keysIn β ks) b := fun b hb => ⟨inv.base b hb, by
    rintro ⟨k, x, h1, h2, rfl⟩
    obtain ⟨j, _, _, j3⟩ := keysIn_some h1
    exact (inv.new j x j3 h2).1 hb⟩
  have hofS : ∀ b, S b → ownFree w (keysIn β ks) b := fun b hb => ⟨inv.lt b hb, by
    rintro ⟨k, x, h1, h2, rfl⟩
    obtain ⟨j, _, _, j3⟩ := keysIn_some h1
    exact (inv.new j x j3 h2).2.2 hb⟩
  have hofO : ∀ k x, k ∉ ks → β k = some x → x.real = true → ownFree w (keysIn β ks) x.b := fun k x hk hx hr => ⟨(inv.new k x hx hr).2.1, by
    rintro ⟨k', x', h1, h2, e⟩
    obtain ⟨j, j1, _, j3⟩ := keysIn_some h1
    have := inv.inj j k x' x j3 hx h2 hr e
    subst this
    exact hk (List.mem_of_getElem? j1)⟩
  have hsz := hbl.size
  have hgr : GrK B (mv.map (outKey ks d)) w S β w' S' β2 := by
    refine ⟨hbl.mono hofB, fun b hb => hbl.block b (hofS b hb), hsub, fun b hb => (hnews b hb).imp id fun h hB => h (hofB b hB), fun k x hk hx => ?_, fun k x hi hk hx => ?_⟩
    · by_cases hks : k ∈ ks
      · simp only [β2]
        rw [if_pos hks]
        obtain ⟨b, hb⟩ := mget_ne (o3 k hks)
        obtain ⟨x', hx'⟩ := inv'.cov _ b hb
        have hin : inK (inKey ks k) := ⟨by unfold inKey; omega, by have := inKey_lt hks; omega⟩
        have := hst _ x' hin (fun hm => hk (List.mem_map.2 ⟨_, hm, outKey_in hks⟩)) hx'
        rw [keysIn_at hks, hx] at this
        cases this
        exact hx'
      · simp only [β2]
        rw [if_neg hks, hx]
    · rcases bc k x hx with ⟨h1, h2⟩ | ⟨h1, h2⟩ | ⟨j, h1, rfl, _⟩
      · have hin : inK (inKey ks k) := ⟨by unfold inKey; omega, by have := inKey_lt h1; omega⟩
        have := hst _ x hin (fun hm => hk (List.mem_map.2 ⟨_, hm, outKey_in h1⟩)) h2
        rw [keysIn_at h1] at this
        exact this
      · exact h2
      · have := hi.2; simp only [renK] at this; omega
  -- what the new heap holds
  have hinj : ∀ p ∈ H, ∀ k, k ∈ H.map (·.1) → outKey ks d p.1 = outKey ks d k → p.1 = k := by
    intro p hp k hk e
    obtain ⟨b2, hb2⟩ := mget_ne hk
    obtain ⟨b1, hb1⟩ := mget_ne (m := H) (k := p.1) (List.mem_map_of_mem hp)
    rcases hkey _ b1 hb1 with ⟨k1, q1, q2, q3⟩ | ⟨q1, _, q3, q4⟩ <;> rcases hkey _ b2 hb2 with ⟨k2, r1, r2, r3⟩ | ⟨r1, _, r3, r4⟩
    · rw [q3, r3] at e; rw [q2, r2, e]
    · rw [q3, r3] at e; rw [e] at q1; exact absurd q1 (hren _ r1 r4)
    · rw [q3, r3] at e; rw [← e] at r1; exact absurd r1 (hren _ q1 q4)
    · rw [q3, r3] at e; simp only [renK] at e; omega
  have hnd2 : keysNodup (H.map fun q => (outKey ks d q.1, q.2.ren (outKey ks d))) = true := by
    refine keysNodup_of ?_
    rw [List.map_map]
    have : ((fun (x : Nat × Blk) => x.1) ∘ fun q : Nat × Blk => (outKey ks d q.1, q.2.ren (outKey ks d))) = (outKey ks d) ∘ fun (x : Nat × Blk) => x.1 := rfl
    rw [this, ← List.map_map]
    refine nodup_mapK o1 fun x hx y hy e => ?_
    obtain ⟨p, hp, rfl⟩ := List.mem_map.1 hx
    exact hinj p hp y hy e
  have hmg : ∀ k, mget (msets (h.map fun p => (p.1, p.2.kill (mv.map (outKey ks d)))) (H.map fun q => (outKey ks d q.1, q.2.ren (outKey ks d)))) k = (mget (H.map fun q => (outKey ks d q.1, q.2.ren (outKey ks d))) k).or ((mget h k).map (Blk.kill (mv.map (outKey ks d)))) := by
    intro k
    rw [mget_msets, mget_reverse hnd2, mget_map]
  have hat : ∀ k' b, mget H k' = some b → mget (H.map fun q => (outKey ks d q.1, q.2.ren (outKey ks d))) (outKey ks d k') = some (b.ren (outKey ks d)) := by
    intro k' b hb
    rw [mget_mapK fun p hp e => hinj p hp k' (List.mem_map.2 ⟨(k', b), mget_mem hb, rfl⟩) e, hb]
    rfl
  refine ⟨β2, ⟨fun b hb => by have := inv.base b hb; omega, inv'.lt, fun k k' x x' h1 h2 r1 r2 e => ?_, fun k x h1 r1 => ?_, fun k x h1 => ?_, fun k bl h1 => ?_, fun gl row hg => (inv.glob gl row hg).mono hgr.keep hgr.sub⟩, hgr, bi⟩
  · -- one key a block
    have far : ∀ c x k' x', β' c = some x → x.real = true → k' ∉ ks → β k' = some x' → x'.real = true → x.b ≠ x'.b := by
      intro c x k' x' hc hr hk' hx' hr' e
      have := (inv'.new c x hc hr).1
      rw [e] at this
      exact this (hofO k' x' hk' hx' hr')
    rcases bc k x h1 with ⟨p1, p2⟩ | ⟨p1, p2⟩ | ⟨j, p1, rfl, p2, p3, _⟩ <;> rcases bc k' x' h2 with ⟨q1, q2⟩ | ⟨q1, q2⟩ | ⟨j', q1, rfl, q2, q3, _⟩
    · exact inKey_inj p1 q1 (inv'.inj _ _ x x' p2 q2 r1 r2 e)
    · exact absurd e (far _ x k' x' p2 r1 q1 q2 r2)
    · have := inv'.inj _ _ x x' p2 q2 r1 r2 e
      have hge : 900 ≤ inKey ks k := by unfold inKey; omega
      omega
    · exact absurd e.symm (far _ x' k x q2 r2 p1 p2 r1)
    · exact inv.inj k k' x x' p2 q2 r1 r2 e
    · exact absurd e.symm (far _ x' k x q2 r2 p1 p2 r1)
    · have := inv'.inj _ _ x x' p2 q2 r1 r2 e
      have hge : 900 ≤ inKey ks k' := by unfold inKey; omega
      omega
    · exact absurd e (far _ x k' x' p2 r1 q1 q2 r2)
    · rw [inv'.inj _ _ x x' p2 q2 r1 r2 e]
  · have viaH : ∀ c, β' c = some x → ¬ B x.b ∧ x.b < w'.heap.size ∧ ¬ S' x.b := by
      intro c hc
      obtain ⟨n1, n2, n3⟩ := inv'.new c x hc r1
      exact ⟨fun hB => n1 (hofB _ hB), n2, n3⟩
    rcases bc k x h1 with ⟨p1, p2⟩ | ⟨p1, p2⟩ | ⟨j, p1, rfl, p2, p3, _⟩
    · exact viaH _ p2
    · obtain ⟨n1, n2, n3⟩ := inv.new k x p2 r1
      exact ⟨n1, by omega, fun hs => (hnews _ hs).elim n3 fun hh => hh (hofO k x p1 p2 r1)⟩
    · exact viaH _ p2
  · have viaH : ∀ c, outKey ks d c = k → β' c = some x → ∃ bl, mget (msets (h.map fun p => (p.1, p.2.kill (mv.map (outKey ks d)))) (H.map fun q => (outKey ks d q.1, q.2.ren (outKey ks d)))) k = some bl ∧ (x.real = true → BlkOK w' S' β2 bl x) ∧ (x.real = false → bl.rows = [] ∧ bl.box = false) := by
      intro c hc hx
      obtain ⟨bl, a1, a2, a3⟩ := inv'.dom c x hx
      refine ⟨bl.ren (outKey ks d), by rw [hmg, ← hc, hat c bl a1]; rfl, fun hr => (a2 hr).ren fun q _ y hy => bi q y hy, fun hr => ren_virt (a3 hr)⟩
    rcases bc k x h1 with ⟨p1, p2⟩ | ⟨p1, p2⟩ | ⟨j, p1, e, p2, p3, _⟩
    · exact viaH _ (outKey_in p1) p2
    · obtain ⟨bl, a1, a2, a3⟩ := inv.dom k x p2
      have hno : mget (H.map fun q => (outKey ks d q.1, q.2.ren (outKey ks d))) k = none := by
        cases hm : mget (H.map fun q => (outKey ks d q.1, q.2.ren (outKey ks d))) k with
        | none => rfl
        | some y =>
          exfalso
          obtain ⟨q, hq, e⟩ := List.mem_map.1 (mget_mem hm)
          have e : outKey ks d q.1 = k := congrArg Prod.fst e
          obtain ⟨b, hb⟩ := mget_ne (m := H) (k := q.1) (List.mem_map_of_mem hq)
          rcases hkey _ b hb with ⟨k1, q1, _, q3⟩ | ⟨_, _, q3, q4⟩
          · rw [q3] at e; rw [e] at q1; exact p1 q1
          · rw [q3] at e; rw [e, a1] at q4; cases q4
      refine ⟨bl.kill (mv.map (outKey ks d)), by rw [hmg, hno, a1]; rfl, fun hr => (a2 hr).kill hgr (hbl.block _ (hofO k x p1 p2 hr)), fun hr => kill_virt (a3 hr)⟩
    · exact viaH _ p3 p2
  · rw [hmg] at h1
    cases hm : mget (H.map fun q => (outKey ks d q.1, q.2.ren (outKey ks d))) k with
    | some y =>
      obtain ⟨q, hq, e⟩ := List.mem_map.1 (mget_mem hm)
      have e : outKey ks d q.1 = k := congrArg Prod.fst e
      obtain ⟨b, hb⟩ := mget_ne (m := H) (k := q.1) (List.mem_map_of_mem hq)
      obtain ⟨x, hx⟩ := inv'.cov _ b hb
      exact ⟨x, by rw [← e]; exact bi _ x hx⟩
    | none =>
      rw [hm] at h1
      cases hk : mget h k with
      | none => rw [hk] at h1; cases h1
      | some b =>
        obtain ⟨x, hx⟩ := inv.cov k b hk
        by_cases hks : k ∈ ks
        · obtain ⟨b2, hb2⟩ := mget_ne (o3 k hks)
          have := hat _ b2 hb2
          rw [outKey_in hks, hm] at this
          cases this
        · exact ⟨x, by simp only [β2]; rw [if_neg hks, hx]⟩
theorem callH_sound (ok : EnvOK P E) (inv : Inv E B w S β h) {c : Call} {fo : Operand} (ho : o.op = .call c) (hc : c.callee = .value fo) {f : FuncId} {caps : List AV} (hf : RV w S β (.fn f caps) (a.eval fo))
    {uargs : List AV} (hargs : RL (RV w S β) uargs (c.args.toList.map a.eval)) {p : AV × Heap × List Nat} (hp : (callH E (mget h) o.dst f (uargs ++ caps)).val = some p) : KOK P E B o a w S β h p.1 p.2.1 p.2.2 := by
  obtain ⟨cvs, hfv, hcaps⟩ := (show RC w S β (.fn f caps) (a.eval fo) from hf)
  have hall : RL (RV w S β) (uargs ++ caps) (c.args.toList.map a.eval ++ cvs) := hargs.append (hcaps.imp fun b hb u hu => by
    by_cases hn : ∃ g cs, b = .fn g cs
    · obtain ⟨g, cs, rfl⟩ := hn
      cases (show R0 w S (.fn g cs) u from hu) with | fn => exact ⟨[], rfl, trivial⟩
    · exact RT.rv (RC.rt (by rw [RC_eq (fun g cs e => hn ⟨g, cs, e⟩)]; exact hu)))
  unfold callH callH1 at hp
  split at hp
  · rename_i hck
    simp only [Bool.and_eq_true] at hck
    obtain ⟨⟨hcl, hle⟩, hnd⟩ := hck
    have hnd := nodupB_spec hnd
    have hle : (reach (mget h) 2 (addK [] ((uargs ++ caps).flatMap refs2))).length ≤ 99 := by simpa using hle
    have hroot : ∀ x ∈ uargs ++ caps, ∀ k ∈ refs2 x, k ∈ reach (mget h) 2 (addK [] ((uargs ++ caps).flatMap refs2)) := fun x hx k hk => mem_reach 2 (mem_addK.2 (.inr (List.mem_flatMap.2 ⟨x, hx, hk⟩)))
    generalize reach (mget h) 2 (addK [] ((uargs ++ caps).flatMap refs2)) = ks at hp hcl hle hnd hroot
    rw [T.bind_some] at hp
    obtain ⟨⟨r, H, mv⟩, hE, hp⟩ := hp
    have hrun := run_enter (P := P) (w := w) (ok.hereh f _ _ _ hE) ho hc hfv
    have hspec := ok.spech f _ _ r H mv hE w S (keysIn β ks) _ (inv_in inv hcl hnd) (hall.map fun b hb u hu => ren2_rv (fun k hk y hy => by rw [keysIn_at (hroot b hb k hk)]; exact hy) hu)
    intro K Q hK
    unfold Oper.wp
    rw [hrun, Oper.upon_enter]
    refine hspec.mono ?_
    rintro e w' ⟨v, S', β', rfl, hbl, hsub, hnews, inv', hst, hrv⟩
    split at hp
    · rename_i d hd
      unfold callOut at hp
      split at hp
      · rename_i hok
        rw [T.ret_some] at hp
        subst hp
        obtain ⟨β2, i1, g1, b1⟩ := inv_back inv hcl hnd hle hok hbl hsub hnews inv' hst
        exact hK v w' S' β2 i1 g1 (ren2_rv (fun k _ y hy => b1 k y hy) hrv)
      · rw [T.fail_some] at hp; exact hp.elim
    · unfold callOut at hp
      split at hp
      · rename_i hok
        rw [T.ret_some] at hp
        subst hp
        obtain ⟨β2, i1, g1, b1⟩ := inv_back inv hcl hnd hle hok hbl hsub hnews inv' hst
        exact hK v w' S' β2 i1 g1 trivial
      · rw [T.fail_some] at hp; exact hp.elim
  · rw [T.fail_some] at hp; exact hp.elim
end

end

end Go.Proofs.YtgkjfochkhiojaaDoor.M
