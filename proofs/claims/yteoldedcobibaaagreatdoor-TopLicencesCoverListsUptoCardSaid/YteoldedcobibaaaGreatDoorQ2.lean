/- What is proved here: The machine is sound: results, regions and open orders (no statement of the seat). -/
import Derived.Orders
import Derived.Test.YteoldedcobibaaaGreatDoorQ1

namespace Go.Proofs.YteoldedcobibaaaGreatDoor.M
open Go Go.RowKit
set_option linter.unusedVariables false
set_option linter.unusedSimpArgs false

section

variable {P : Program} {E : Env}

def noKeys : Nat → Option BI := fun _ => none
theorem blw_of {n : Nat} {B : Nat → Prop} {w w' : World} (h : Below n w w') (hB : ∀ b, B b → b < n) : Blw B w w' := ⟨h.os, h.tape, h.output, h.size, fun k hk => h.block k (hB k hk)⟩
theorem Blw.below {n : Nat} {w w' : World} (h : Blw (fun b => b < n) w w') : Below n w w' := ⟨h.os, h.tape, h.output, h.size, h.block⟩
def SpecP (P : Program) (G : Nat → Option GR) (f : FuncId) (args : List AV) (r : AV) (H : Heap) : Prop :=
  ∀ (w : World) (S : Nat → Prop) (cargs : List Value), (∀ b, S b → b < w.heap.size) → (∀ g r, G g = some r → GlobAt w S g r) → RL (RV w S noKeys) args cargs →
    Calls P f cargs.toArray w fun e w' => ∃ v S' β', e = .returned v ∧ Below w.heap.size w w' ∧ (∀ b, S b → S' b) ∧ (∀ b, S' b → S b ∨ w.heap.size ≤ b) ∧
      (∀ b, S' b → b < w'.heap.size) ∧
      (∀ k k' x x', β' k = some x → β' k' = some x' → x.real = true → x'.real = true → x.b = x'.b → k = k') ∧
      (∀ k x, β' k = some x → x.real = true → w.heap.size ≤ x.b ∧ x.b < w'.heap.size ∧ ¬ S' x.b) ∧
      (∀ k x, β' k = some x → ∃ bl, mget H k = some bl ∧ bl.box = false ∧ (x.real = true → BlkOK w' S' noKeys bl x) ∧ (x.real = false → bl.rows = [])) ∧
      (∀ k bl, mget H k = some bl → ∃ x, β' k = some x) ∧ RV w' S' β' r v
def ownFree (w : World) (β : Nat → Option BI) (b : Nat) : Prop := b < w.heap.size ∧ ¬ ∃ k x, β k = some x ∧ x.real = true ∧ x.b = b
def SpecH (P : Program) (G : Nat → Option GR) (f : FuncId) (args : List AV) (hin : Heap) (r : AV) (hout : Heap) (mv : List Nat) : Prop :=
  ∀ (w : World) (S : Nat → Prop) (β : Nat → Option BI) (cargs : List Value), InvG G (ownFree w β) w S β hin → RL (RV w S β) args cargs →
    Calls P f cargs.toArray w fun e w' => ∃ v S' β', e = .returned v ∧ Blw (ownFree w β) w w' ∧ (∀ b, S b → S' b) ∧ (∀ b, S' b → S b ∨ ¬ ownFree w β b) ∧
      InvG G (ownFree w β) w' S' β' hout ∧ (∀ k x, inK k → k ∉ mv → β' k = some x → β k = some x) ∧ RV w' S' β' r v
def flat0 : AV → Bool
  | .v _ => true
  | .unk => true
  | _ => false
def frs0 : AV → Bool
  | .own _ => true
  | a => flat0 a
def frs1 : AV → Bool
  | .agg cs => cs.all frs0
  | a => frs0 a
def frs2 : AV → Bool
  | .tup cs => cs.all frs1
  | a => frs1 a
def frsH (H : Heap) : Bool := H.all fun p => p.2.rows.all fun r => r.all flat0
structure FnOK (P : Program) (E : Env) : Prop where
  spec : ∀ f args r H, (E.fn f args).val = some (r, H) → SpecP P E.glob f args r H
  flat : ∀ f args r H, (E.fn f args).val = some (r, H) → E.flat f = true → frsH H = true ∧ frs2 r = true

section
variable {B : Nat → Prop} {o : Oper} {a : Act} {w w' : World} {S S' : Nat → Prop} {β β' : Nat → Option BI} {h : Heap} {av : AV} {v : Value}
theorem frs0_rc {x : AV} (hf : frs0 x = true) (hr : RC w S β x v) : RC w S' β x v := by
  cases x <;> first | (simp [frs0, flat0] at hf; done) | skip
  · exact R0.rc (.unk hr.one)
  · cases (show R0 w S (.v _) v from hr) with | v h => exact R0.rc (.v h)
  · exact hr
theorem frs1_rt {x : AV} (hf : frs1 x = true) (hr : RT w S β x v) : RT w S' β x v := by
  cases x
  case agg cs =>
    obtain ⟨vs, h1, h2⟩ := hr
    exact ⟨vs, h1, h2.imp fun b hb u hu => frs0_rc (List.all_eq_true.1 hf b hb) hu⟩
  case unk => trivial
  case v y => exact frs0_rc (w := w) (S := S) (S' := S') (β := β) (x := .v y) hf hr
  case own k => exact frs0_rc (w := w) (S := S) (S' := S') (β := β) (x := .own k) hf hr
  all_goals (simp [frs1, frs0, flat0] at hf)
theorem frs2_rv {x : AV} (hf : frs2 x = true) (hr : RV w S β x v) : RV w S' β x v := by
  cases x
  case tup cs =>
    obtain ⟨vs, h1, h2⟩ := hr
    exact ⟨vs, h1, h2.imp fun b hb u hu => frs1_rt (List.all_eq_true.1 hf b hb) hu⟩
  case agg cs => exact frs1_rt (w := w) (S := S) (S' := S') (β := β) (x := .agg cs) hf hr
  case unk => trivial
  case v y => exact frs1_rt (w := w) (S := S) (S' := S') (β := β) (x := .v y) hf hr
  case own k => exact frs1_rt (w := w) (S := S) (S' := S') (β := β) (x := .own k) hf hr
  all_goals (simp [frs2, frs1, frs0, flat0] at hf)
theorem map_same {g : AV → AV} : ∀ {l : List AV}, (∀ y ∈ l, g y = y) → l.map g = l
  | [], _ => rfl
  | a :: l, h => by rw [List.map_cons, h a (by simp), map_same fun y hy => h y (by simp [hy])]
def plusOwn (S : Nat → Prop) (β : Nat → Option BI) : Nat → Prop := fun b => S b ∨ ∃ k x, β k = some x ∧ x.real = true ∧ x.b = b
theorem own_sl (inv : Inv E B w S β h) {k : Nat} {bl : Blk} (hbox : bl.box = false) (hk : mget h k = some bl) (hv : RP w S β (.own k) v) : R0 w (plusOwn S β) (.sl bl.rows) v := by
  obtain ⟨X, hX, h1, h2⟩ := hv
  obtain ⟨bl', hb, h3, h4⟩ := inv.dom k X hX
  rw [hk] at hb
  cases hb
  cases hr : X.real
  · obtain ⟨A, rfl⟩ := h2 hr
    rw [(h4 hr).1]
    exact R0.sl (rows := []) (size := 0) (b := 0) (off := 0) (vals := fun _ _ => .nilFunc) (by simp) (by simp) (by simp) (by simp) (by simp) (by simp)
  · obtain ⟨cs, ty, c1, c2, c3, c4, c5, c6, c7, c8⟩ := h3 hr
    rw [h1 hr, ← c3]
    refine R0.sl (size := X.size) (b := X.b) (off := 0) (vals := fun i j => (cs[i * X.size + j]?).getD .nilFunc) (by omega) c5 (fun _ => ⟨rfl, .inr ⟨k, X, hX, hr, rfl⟩⟩) (fun i row hi => (c8 i row hi).1) (fun i j row x hi hj => ?_) (fun i j row x hi hj => ?_)
    · obtain ⟨u, hu, _⟩ := (c8 i row hi).2 j x hj
      simp [World.cell?, c1, hu]
    · obtain ⟨u, hu, hru⟩ := (c8 i row hi).2 j x hj
      rw [hbox] at hru
      simp only [hu, Option.getD_some]
      exact R0.mono (fun _ _ => rfl) (fun b hb => .inl hb) (by simpa using hru)
theorem win_cut {S1 : Nat → Prop} (hS : ∀ b, S b → S1 b) {bl : Blk} (hbox : bl.box = false) {X : BI} (hS1 : X.real = true → S1 X.b) (hb : X.real = true → BlkOK w S β bl X) {k lo n : Nat} {A : Option Addr} {c : Nat} (hc : n ≤ c) (hm : c ≤ 9223372036854775807)
    (hn : n ≠ 0 → X.real = true ∧ A = some ⟨X.b, lo * X.size, none⟩ ∧ lo + n ≤ X.len) : R0 w S1 (.sl ((bl.rows.drop lo).take n)) (.slice A n c) := by
  by_cases h0 : n = 0
  · subst h0
    rw [List.take_zero]
    exact R0.sl (rows := []) (size := 0) (b := 0) (off := 0) (vals := fun _ _ => .nilFunc) (by simp) hm (by simp) (by simp) (by simp) (by simp)
  · obtain ⟨hr, rfl, hle⟩ := hn h0
    obtain ⟨cs, ty, c1, c2, c3, c4, c5, c6, c7, c8⟩ := hb hr
    have hlen : ((bl.rows.drop lo).take n).length = n := by rw [List.length_take, List.length_drop]; omega
    have hat : ∀ (i : Nat) (row : Row), ((bl.rows.drop lo).take n)[i]? = some row → bl.rows[lo + i]? = some row := by
      intro i row hi
      have hlt : i < n := by have := (List.getElem?_eq_some_iff.1 hi).1; omega
      rw [List.getElem?_take_of_lt hlt, List.getElem?_drop] at hi
      exact hi
    conv => arg 4; arg 2; rw [← hlen]
    refine R0.sl (size := X.size) (b := X.b) (off := lo * X.size) (vals := fun i j => (cs[(lo + i) * X.size + j]?).getD .nilFunc) (by omega) hm (fun _ => ⟨rfl, hS1 hr⟩) (fun i row hi => (c8 _ row (hat i row hi)).1) (fun i j row x hi hj => ?_) (fun i j row x hi hj => ?_)
    · obtain ⟨u, hu, _⟩ := (c8 _ row (hat i row hi)).2 j x hj
      have e : lo * X.size + i * X.size + j = (lo + i) * X.size + j := by rw [Nat.add_mul]
      simp [World.cell?, c1, hu, e]
    · obtain ⟨u, hu, hru⟩ := (c8 _ row (hat i row hi)).2 j x hj
      rw [hbox] at hru
      simp only [hu, Option.getD_some]
      exact R0.mono (fun _ _ => rfl) hS (by simpa using hru)
theorem win_sl (inv : Inv E B w S β h) {k lo n : Nat} {bl : Blk} (hbox : bl.box = false) (hk : mget h k = some bl) (hv : RP w S β (.win k lo n) v) : R0 w (plusOwn S β) (.sl ((bl.rows.drop lo).take n)) v := by
  obtain ⟨X, hX, A, c, rfl, hc, hm, hn⟩ := hv
  obtain ⟨bl', hb, h3, h4⟩ := inv.dom k X hX
  rw [hk] at hb
  cases hb
  exact win_cut (k := k) (fun b hb => .inl hb) hbox (fun hr => .inr ⟨k, X, hX, hr, rfl⟩) h3 hc hm hn
theorem win_view (inv : Inv E B w S β h) {k lo n : Nat} (hr : RP w S β (.win k lo n) v) : R0 w (plusOwn S β) (view0 (mget h) (.win k lo n)) v := by
  have h1 := hr.one
  simp only [view0]
  split
  · rename_i bl hbl
    split
    · exact .unk h1
    · exact win_sl inv ‹_› hbl hr
  · exact .unk h1
theorem own_view (inv : Inv E B w S β h) {k : Nat} (hr : RP w S β (.own k) v) : R0 w (plusOwn S β) (view0 (mget h) (.own k)) v := by
  have h1 := hr.one
  simp only [view0]
  split
  · rename_i bl hbl
    split
    · exact .unk h1
    · exact own_sl inv ‹_› hbl hr
  · exact .unk h1
def ow : AV → Bool
  | .own _ => true
  | .win _ _ _ => true
  | _ => false
theorem ow_view (inv : Inv E B w S β h) {y : AV} (hy : ow y = true) (hr : RP w S β y v) : R0 w (plusOwn S β) (view0 (mget h) y) v := by
  cases y <;> first | (simp [ow] at hy; done) | exact own_view inv hr | exact win_view inv hr
structure Sees (w : World) (S : Nat → Prop) (β : Nat → Option BI) (hg : Nat → Option Blk) (S1 : Nat → Prop) (ks : List Nat) : Prop where
  own : ∀ y u, ow y = true → (∀ k ∈ refs0 y, k ∈ ks) → RP w S β y u → R0 w S1 (view0 hg y) u
  ptr : ∀ k i off u, k ∈ ks → RP w S β (.ptr k i off) u → RP w S1 noKeys (viewP hg (.ptr k i off)) u
theorem Sees.sub {w : World} {S : Nat → Prop} {β : Nat → Option BI} {hg : Nat → Option Blk} {S1 : Nat → Prop} {ks ks' : List Nat} (hs : Sees w S β hg S1 ks) (hk : ∀ k ∈ ks', k ∈ ks) : Sees w S β hg S1 ks' :=
  ⟨fun y u hy h => hs.own y u hy (fun k hkk => hk k (h k hkk)), fun k i off u h => hs.ptr k i off u (hk k h)⟩
variable {hg : Nat → Option Blk} {S1 : Nat → Prop}
theorem view0_rep (hS : ∀ b, S b → S1 b) {x : AV} (hown : ∀ y u, ow y = true → (∀ k ∈ refs0 y, k ∈ refsC x) → RP w S β y u → R0 w S1 (view0 hg y) u) (hr : RC w S β x v) : R0 w S1 (view0 hg x) v := by
  have h1 := hr.one
  cases x
  case own k => exact hown (.own k) v rfl (by simp [refsC, refs0]) hr
  case win k lo n => exact hown (.win k lo n) v rfl (by simp [refsC, refs0]) hr
  case e0 =>
    obtain ⟨A, rfl⟩ := hr
    exact R0.sl (rows := []) (size := 0) (b := 0) (off := 0) (vals := fun _ _ => .nilFunc) (by simp) (by simp) (by simp) (by simp) (by simp) (by simp)
  case v y => exact R0.mono (fun _ _ => rfl) hS (show R0 w S (.v y) v from hr)
  case sl rows => exact R0.mono (fun _ _ => rfl) hS (show R0 w S (.sl rows) v from hr)
  case nz b rows => exact R0.mono (fun _ _ => rfl) hS hr.1
  case fn f cs =>
    obtain ⟨vs, rfl, h2⟩ := hr
    cases cs
    · cases vs
      · exact .fn f
      · exact h2.elim
    · exact .unk rfl
  all_goals exact .unk h1
theorem viewP_rep (hS : ∀ b, S b → S1 b) {x : AV} (hown : Sees w S β hg S1 (refs0 x)) (hr : RP w S β x v) : RP w S1 noKeys (viewP hg x) v := by
  cases x
  case ptr k i off => exact hown.ptr k i off v (by simp [refs0]) hr
  case pel row off =>
    obtain ⟨b, o, h1, h2⟩ := hr
    exact ⟨b, o, h1, h2.mono (fun _ _ => rfl) hS⟩
  case fn f cs =>
    cases (show R0 w S (.fn f cs) v from hr) with
    | fn => exact R0.rp (.fn f)
  case own k => exact R0.rp (hown.own (.own k) v rfl (by simp [refs0]) hr)
  case win k lo n => exact R0.rp (hown.own (.win k lo n) v rfl (by simp [refs0]) hr)
  all_goals
    have hr' := hr
    rw [← RC_eq (by simp)] at hr'
    refine R0.rp (view0_rep (hg := hg) hS (fun y u hy hk => ?_) hr')
    exfalso
    cases y <;> simp [ow, refsC, refs0] at hy hk
theorem viewC_rep (hS : ∀ b, S b → S1 b) {x : AV} (hown : Sees w S β hg S1 (refsC x)) (hr : RC w S β x v) : RC w S1 noKeys (viewC hg x) v := by
  by_cases hn : ∃ f cs, x = .fn f cs
  · obtain ⟨f, cs, rfl⟩ := hn
    obtain ⟨vs, h1, h2⟩ := hr
    exact ⟨vs, h1, h2.map fun b hb u hu => viewP_rep hS (hown.sub fun k hk => by simp only [refsC, List.mem_flatMap]; exact ⟨b, hb, hk⟩) hu⟩
  · have hn' : ∀ f cs, x ≠ .fn f cs := fun f cs e => hn ⟨f, cs, e⟩
    rw [RC_eq hn'] at hr
    rw [refsC_eq hn'] at hown
    have hv : viewC hg x = viewP hg x := by cases x <;> first | rfl | exact absurd rfl (hn' _ _)
    have hv2 : ∀ f cs, viewP hg x ≠ .fn f cs := by
      intro f cs e
      cases x <;> simp only [viewP] at e
      case fn => exact hn' _ _ rfl
      case ptr k i off =>
        split at e
        · split at e
          · split at e <;> cases e
          · cases e
        · cases e
      case pel => cases e
      case own k =>
        simp only [view0] at e
        split at e
        · split at e <;> cases e
        · cases e
      case win k lo n =>
        simp only [view0] at e
        split at e
        · split at e <;> cases e
        · cases e
      all_goals (simp [view0] at e)
    rw [hv, RC_eq hv2]
    exact viewP_rep hS hown hr
theorem view1_rep (hS : ∀ b, S b → S1 b) {x : AV} (hown : Sees w S β hg S1 (refs1 x)) (hr : RT w S β x v) : RT w S1 noKeys (view1 hg x) v := by
  by_cases hn : ∃ cs, x = .agg cs
  · obtain ⟨cs, rfl⟩ := hn
    obtain ⟨vs, h1, h2⟩ := hr
    exact ⟨vs, h1, h2.map fun b hb u hu => viewC_rep hS (hown.sub fun k hk => by simp only [refs1, List.mem_flatMap]; exact ⟨b, hb, hk⟩) hu⟩
  · by_cases hu : x = .unk
    · subst hu; trivial
    · have hn' : ∀ cs, x ≠ .agg cs := fun cs e => hn ⟨cs, e⟩
      rw [RT_eq hn' hu] at hr
      rw [refs1_eq hn'] at hown
      have hv : view1 hg x = viewC hg x := by cases x <;> first | rfl | exact absurd rfl (hn' _)
      rw [hv]
      exact (viewC_rep hS hown hr).rt
theorem view2_rep (hS : ∀ b, S b → S1 b) {x : AV} (hown : Sees w S β hg S1 (refs2 x)) (hr : RV w S β x v) : RV w S1 noKeys (view2 hg x) v := by
  by_cases hn : ∃ cs, x = .tup cs
  · obtain ⟨cs, rfl⟩ := hn
    obtain ⟨vs, h1, h2⟩ := hr
    exact ⟨vs, h1, h2.map fun b hb u hu => view1_rep hS (hown.sub fun k hk => by simp only [refs2, List.mem_flatMap]; exact ⟨b, hb, hk⟩) hu⟩
  · by_cases hu : ∃ j b want y, x = .gd j b want y
    · obtain ⟨j, b, want, y, rfl⟩ := hu
      trivial
    · have hn' : ∀ cs, x ≠ .tup cs := fun cs e => hn ⟨cs, e⟩
      have hu' : ∀ j b w y, x ≠ .gd j b w y := fun j b w y e => hu ⟨j, b, w, y, e⟩
      rw [RV_eq hn' hu'] at hr
      rw [refs2_eq hn' hu'] at hown
      have hv : view2 hg x = view1 hg x := by cases x <;> first | rfl | exact absurd rfl (hn' _)
      rw [hv]
      exact RT.rv (view1_rep hS hown hr)
theorem sees_own (inv : Inv E B w S β h) (ks : List Nat) : Sees w S β (mget h) (plusOwn S β) ks := by
  refine ⟨fun y u hy _ hr => ow_view inv hy hr, fun k i off u _ hr => ?_⟩
  have h1 := hr.one
  obtain ⟨x, hx, hre, rfl⟩ := hr
  obtain ⟨bl, b1, b2, _⟩ := inv.dom k x hx
  obtain ⟨cs, ty, c1, c2, c3, c4, c5, c6, c7, c8⟩ := b2 hre
  simp only [viewP, b1]
  split
  · rename_i hbx
    split
    · rename_i row hrow
      refine ⟨x.b, i * x.size, rfl, .inr ⟨k, x, hx, hre, rfl⟩, fun j a ha => ?_⟩
      simp only [List.getElem?_map, Option.map_eq_some_iff] at ha
      obtain ⟨a0, ha0, rfl⟩ := ha
      obtain ⟨u, hu, hru⟩ := (c8 i row hrow).2 j a0 ha0
      rw [hbx] at hru
      refine ⟨u, by simp [World.cell?, c1, hu], ?_⟩
      exact view0_rep (fun b hb => .inl hb) (fun y' u' hy' _ hr' => ow_view inv hy' hr') (by simpa using hru)
    · exact R0.rp (.unk h1)
  · exact R0.rp (.unk h1)
theorem sees_nil {w : World} {S : Nat → Prop} {β : Nat → Option BI} {hg : Nat → Option Blk} {S1 : Nat → Prop} : Sees w S β hg S1 [] := ⟨fun y u hy hk => by exfalso; cases y <;> simp [ow, refs0] at hy hk, fun k i off u hk => by simp at hk⟩

theorem ren0_rp {x : AV} {f : Nat → Nat} (hβ : ∀ k ∈ refs0 x, ∀ y, β' k = some y → β (f k) = some y) (hr : RP w S β' x v) : RP w S β (ren0 f x) v := by
  cases x
  case own k => obtain ⟨y, h1, h2⟩ := hr; exact ⟨y, hβ k (by simp [refs0]) y h1, h2⟩
  case win k lo n => obtain ⟨y, h1, h2⟩ := hr; exact ⟨y, hβ k (by simp [refs0]) y h1, h2⟩
  case ptr k i o => obtain ⟨y, h1, h2⟩ := hr; exact ⟨y, hβ k (by simp [refs0]) y h1, h2⟩
  all_goals exact hr
theorem renC_rc {x : AV} {f : Nat → Nat} (hβ : ∀ k ∈ refsC x, ∀ y, β' k = some y → β (f k) = some y) (hr : RC w S β' x v) : RC w S β (renC f x) v := by
  by_cases hn : ∃ g cs, x = .fn g cs
  · obtain ⟨g, cs, rfl⟩ := hn
    obtain ⟨vs, h1, h2⟩ := hr
    exact ⟨vs, h1, h2.map fun b hb u hu => ren0_rp (fun k hk => hβ k (by simp only [refsC, List.mem_flatMap]; exact ⟨b, hb, hk⟩)) hu⟩
  · have hn' : ∀ g cs, x ≠ .fn g cs := fun g cs e => hn ⟨g, cs, e⟩
    rw [RC_eq hn'] at hr
    rw [refsC_eq hn'] at hβ
    have hv : renC f x = ren0 f x := by cases x <;> first | rfl | exact absurd rfl (hn' _ _)
    have hv2 : ∀ g cs, ren0 f x ≠ .fn g cs := by
      intro g cs e
      cases x <;> first | (simp [ren0] at e; done) | (exact hn' _ _ rfl)
    rw [hv, RC_eq hv2]
    exact ren0_rp hβ hr
theorem ren1_rt {x : AV} {f : Nat → Nat} (hβ : ∀ k ∈ refs1 x, ∀ y, β' k = some y → β (f k) = some y) (hr : RT w S β' x v) : RT w S β (ren1 f x) v := by
  by_cases hn : ∃ cs, x = .agg cs
  · obtain ⟨cs, rfl⟩ := hn
    obtain ⟨vs, h1, h2⟩ := hr
    exact ⟨vs, h1, h2.map fun b hb u hu => renC_rc (fun k hk => hβ k (by simp only [refs1, List.mem_flatMap]; exact ⟨b, hb, hk⟩)) hu⟩
  · have hn' : ∀ cs, x ≠ .agg cs := fun cs e => hn ⟨cs, e⟩
    by_cases hu : x = .unk
    · subst hu; trivial
    · rw [RT_eq hn' hu] at hr
      rw [refs1_eq hn'] at hβ
      have hv : ren1 f x = renC f x := by cases x <;> first | rfl | exact absurd rfl (hn' _)
      rw [hv]
      exact (renC_rc hβ hr).rt
theorem ren2_rv {x : AV} {f : Nat → Nat} (hβ : ∀ k ∈ refs2 x, ∀ y, β' k = some y → β (f k) = some y) (hr : RV w S β' x v) : RV w S β (ren2 f x) v := by
  by_cases hn : ∃ cs, x = .tup cs
  · obtain ⟨cs, rfl⟩ := hn
    obtain ⟨vs, h1, h2⟩ := hr
    exact ⟨vs, h1, h2.map fun b hb u hu => ren1_rt (fun k hk => hβ k (by simp only [refs2, List.mem_flatMap]; exact ⟨b, hb, hk⟩)) hu⟩
  · have hn' : ∀ cs, x ≠ .tup cs := fun cs e => hn ⟨cs, e⟩
    by_cases hg : ∃ j b want y, x = .gd j b want y
    · obtain ⟨j, b, want, y, rfl⟩ := hg
      exact ⟨fun hb => ren1_rt hβ (hr.1 hb), hr.2⟩
    · have hu' : ∀ j b w y, x ≠ .gd j b w y := fun j b w y e => hg ⟨j, b, w, y, e⟩
      rw [RV_eq hn' hu'] at hr
      rw [refs2_eq hn' hu'] at hβ
      have hv : ren2 f x = ren1 f x := by cases x <;> first | rfl | exact absurd rfl (hn' _) | exact absurd rfl (hu' _ _ _ _)
      rw [hv]
      exact RT.rv (ren1_rt hβ hr)
theorem mget_msets {α : Type} : ∀ (ws m : List (Nat × α)) (k : Nat), mget (msets m ws) k = (mget ws.reverse k).or (mget m k)
  | [], m, k => rfl
  | (j, x) :: r, m, k => by
    rw [msets, mget_msets r, mget_mset, List.reverse_cons]
    have : ∀ (l : List (Nat × α)), mget (l ++ [(j, x)]) k = (mget l k).or (if k = j then some x else none) := by
      intro l
      induction l with
      | nil =>
        simp only [List.nil_append, mget]
        cases hb : Nat.beq k j
        · rw [if_neg (beq_false.1 hb)]; rfl
        · rw [if_pos (beq_true.1 hb)]; rfl
      | cons p r ih => obtain ⟨i, y⟩ := p; simp only [List.cons_append, mget]; split <;> simp_all
    rw [this]
    by_cases e : k = j
    · subst e; simp only [if_true]; cases mget r.reverse k <;> rfl
    · simp only [e, if_false, Option.or_none]
theorem mget_none_of {α : Type} : ∀ {m : List (Nat × α)} {k : Nat}, k ∉ m.map (·.1) → mget m k = none
  | [], k, _ => rfl
  | (j, x) :: r, k, h => by
    simp only [List.map_cons, List.mem_cons, not_or] at h
    simp only [mget]
    rw [beq_false.2 h.1]
    exact mget_none_of h.2
theorem mget_append {α : Type} (l m : List (Nat × α)) (k : Nat) : mget (l ++ m) k = (mget l k).or (mget m k) := by
  induction l with
  | nil => rfl
  | cons p r ih => obtain ⟨i, y⟩ := p; simp only [List.cons_append, mget]; split <;> simp_all
theorem keysNodup_cons {p : Nat × Blk} {r : Heap} (h : keysNodup (p :: r) = true) : p.1 ∉ r.map (·.1) ∧ keysNodup r = true := by
  simp only [keysNodup] at h
  split at h
  · cases h
  · exact ⟨elem_false ‹_›, h⟩
theorem mget_reverse : ∀ {m : Heap}, keysNodup m = true → ∀ k, mget m.reverse k = mget m k
  | [], _, k => rfl
  | (j, x) :: r, h, k => by
    obtain ⟨h1, h2⟩ := keysNodup_cons h
    rw [List.reverse_cons, mget_append, mget_reverse h2]
    by_cases e : k = j
    · subst e
      rw [mget_none_of h1]
      simp only [mget]
      rw [beq_true.2 rfl]
      rfl
    · simp only [mget]
      rw [beq_false.2 e]
      cases mget r k <;> rfl
theorem mget_ren {m : Heap} (d k : Nat) : mget (m.map fun q => (renK d q.1, q.2)) (renK d k) = mget m k := by
  induction m with
  | nil => rfl
  | cons p r ih =>
    obtain ⟨j, x⟩ := p
    simp only [List.map_cons, mget]
    by_cases e : k = j
    · subst e; rw [beq_true.2 rfl, beq_true.2 rfl]
    · rw [beq_false.2 e, beq_false.2 (by simp only [renK]; omega)]; exact ih
theorem keysNodup_ren (d : Nat) : ∀ {m : Heap}, keysNodup m = true → keysNodup (m.map fun q => (renK d q.1, q.2)) = true
  | [], _ => rfl
  | p :: r, h => by
    obtain ⟨h1, h2⟩ := keysNodup_cons h
    simp only [List.map_cons, keysNodup]
    have : ((r.map fun q => (renK d q.1, q.2)).map (·.1)).elem (renK d p.1) = false := by
      rw [← Bool.not_eq_true]
      intro hh
      have hh := elem_true hh
      simp only [List.map_map, List.mem_map, Function.comp] at hh
      obtain ⟨q, hq, e⟩ := hh
      have : q.1 = p.1 := by simp only [renK] at e; omega
      exact h1 (by rw [← this]; exact List.mem_map_of_mem hq)
    rw [this]
    exact keysNodup_ren d h2
theorem freshAll_spec {hg : Nat → Option Blk} {d : Nat} : ∀ {H : Heap}, freshAll hg d H = true → ∀ p ∈ H, hg (renK d p.1) = none ∧ p.1 < 4
  | p :: r, h, q, hq => by
    simp only [freshAll] at h
    split at h
    · rename_i h4
      split at h
      · rename_i hn
        rcases List.mem_cons.1 hq with rfl | hq
        · exact ⟨hn, by simpa using h4⟩
        · exact freshAll_spec h q hq
      · cases h
    · cases h
  | [], _, q, hq => by simp at hq
theorem mget_mem {α : Type} : ∀ {m : List (Nat × α)} {k : Nat} {x : α}, mget m k = some x → (k, x) ∈ m
  | (j, y) :: r, k, x, h => by
    simp only [mget] at h
    split at h
    · rename_i hb
      cases h
      rw [beq_true.1 hb]; simp
    · exact List.mem_cons_of_mem _ (mget_mem h)

theorem posIn_get : ∀ {ks : List Nat} {k : Nat}, k ∈ ks → ks[posIn ks k]? = some k
  | j :: r, k, h => by
    simp only [posIn]
    split
    · rename_i hb; rw [beq_true.1 hb]; rfl
    · rename_i hb
      rcases List.mem_cons.1 h with rfl | h
      · exact absurd rfl (beq_false.1 hb)
      · simpa using posIn_get h
theorem nodupB_spec : ∀ {ks : List Nat}, nodupB ks = true → ks.Nodup
  | [], _ => List.nodup_nil
  | j :: r, h => by
    simp only [nodupB] at h
    split at h
    · cases h
    · exact List.nodup_cons.2 ⟨elem_false ‹_›, nodupB_spec h⟩
theorem nodup_inj : ∀ {l : List Nat}, l.Nodup → ∀ {i j : Nat} (hi : i < l.length) (hj : j < l.length), l[i] = l[j] → i = j
  | a :: l, hn, 0, 0, _, _, _ => rfl
  | a :: l, hn, 0, j + 1, hi, hj, e => by
    have := (List.nodup_cons.1 hn).1
    simp at e
    exact absurd (e ▸ List.getElem_mem _) this
  | a :: l, hn, i + 1, 0, hi, hj, e => by
    have := (List.nodup_cons.1 hn).1
    simp at e
    exact absurd (e ▸ List.getElem_mem _) this
  | a :: l, hn, i + 1, j + 1, hi, hj, e => by
    have := nodup_inj (List.nodup_cons.1 hn).2 (i := i) (j := j) (by simpa using hi) (by simpa using hj) (by simpa using e)
    omega
def Here (P : Program) (f : FuncId) : Prop := ∃ fn, P.funcs[f]? = some fn ∧ (fn.name == "runtime.NumGoroutine") = false ∧ fn.body.isNone = false
theorem run_enter {f : FuncId} (hh : Here P f) {c : Call} {fo : Operand} (ho : o.op = .call c) (hc : c.callee = .value fo) {caps : List Value} (hf : a.eval fo = .func (.func f) #[] caps.toArray) :
    (execOp a.eval o).run P w = .ok (.enter f ((c.args.toList.map a.eval) ++ caps).toArray) w := by
  obtain ⟨fn, h1, h2, h3⟩ := hh
  have e : c.args.map a.eval ++ caps.toArray = ((c.args.toList.map a.eval) ++ caps).toArray := by apply Array.ext'; simp
  simp only [execOp, ho, resolve, hc, hf, Deferred.ofValue, Sem.run_bind, Sem.run_pure, Result.andThen_ok, invoke, callFunc, program, Sem.run, h1, h2, h3, Bool.false_eq_true, if_false, Array.empty_append, e]
theorem inv_call (inv : Inv E B w S β h) {S' : Nat → Prop} {β' : Nat → Option BI} {H : Heap} {d : Nat} (hbelow : Below w.heap.size w w') (hsub : ∀ b, S b → S' b) (hnews : ∀ b, S' b → S b ∨ w.heap.size ≤ b)
    (hlt : ∀ b, S' b → b < w'.heap.size) (hinj : ∀ k k' x x', β' k = some x → β' k' = some x' → x.real = true → x'.real = true → x.b = x'.b → k = k')
    (hnew : ∀ k x, β' k = some x → x.real = true → w.heap.size ≤ x.b ∧ x.b < w'.heap.size ∧ ¬ S' x.b)
    (hdom : ∀ k x, β' k = some x → ∃ bl, mget H k = some bl ∧ bl.box = false ∧ (x.real = true → BlkOK w' S' noKeys bl x) ∧ (x.real = false → bl.rows = []))
    (hcov : ∀ k bl, mget H k = some bl → ∃ x, β' k = some x) (hfr : freshAll (mget h) d H = true) (hnd : keysNodup H = true) :
    ∃ β2, Inv E B w' S' β2 (msets h (H.map fun q => (renK d q.1, q.2))) ∧ Gr B w S β w' S' β2 ∧ ∀ k x, β' k = some x → β2 (renK d k) = some x := by
  have hrel : ∀ k x, β' k = some x → β (renK d k) = none ∧ ∃ bl, mget H k = some bl := by
    intro k x hx
    obtain ⟨bl, h1, _⟩ := hdom k x hx
    obtain ⟨h2, _⟩ := freshAll_spec hfr (k, bl) (mget_mem h1)
    exact ⟨inv.fresh h2, bl, h1⟩
  let β2 : Nat → Option BI := fun k => match β k with
    | some x => some x
    | none => if renK d 0 ≤ k then β' (k - renK d 0) else none
  have b2 : ∀ k x, β k = some x → β2 k = some x := fun k x hx => by simp only [β2, hx]
  have b3 : ∀ k x, β' k = some x → β2 (renK d k) = some x := fun k x hx => by
    simp only [β2, (hrel k x hx).1]
    rw [if_pos (by simp only [renK]; omega)]
    have : renK d k - renK d 0 = k := by simp only [renK]; omega
    rw [this]; exact hx
  have b4 : ∀ k x, β2 k = some x → β k = some x ∨ ∃ j, k = renK d j ∧ β' j = some x := by
    intro k x hx
    simp only [β2] at hx
    split at hx
    · rename_i y hy; cases hx; exact .inl hy
    · split at hx
      · rename_i hge
        exact .inr ⟨k - renK d 0, by simp only [renK] at hge ⊢; omega, hx⟩
      · cases hx
  have g : Gr B w S β w' S' β2 := ⟨blw_of hbelow inv.base, fun b hb => hbelow.block b (inv.lt b hb), hsub, fun b hb => (hnews b hb).imp id (fun h hb => by have := inv.base b hb; omega), b2, fun k x hi hx => (b4 k x hx).resolve_right (by rintro ⟨j, rfl, _⟩; have := hi.2; simp only [renK] at this; omega)⟩
  have hmg : ∀ k, mget (msets h (H.map fun q => (renK d q.1, q.2))) k = (mget (H.map fun q => (renK d q.1, q.2)) k).or (mget h k) := by
    intro k
    rw [mget_msets, mget_reverse (keysNodup_ren d hnd)]
  have hsz := hbelow.size
  refine ⟨β2, ⟨fun b hb => by have := inv.base b hb; omega, hlt, ?_, ?_, ?_, ?_, fun gl row hg => (inv.glob gl row hg).mono g.keep g.sub⟩, g, b3⟩
  · intro k k' x x' h1 h2 r1 r2 e
    rcases b4 k x h1 with p1 | ⟨j, rfl, p1⟩ <;> rcases b4 k' x' h2 with p2 | ⟨j', rfl, p2⟩
    · exact inv.inj k k' x x' p1 p2 r1 r2 e
    · have n1 := (inv.new k x p1 r1).2.1; have n2 := (hnew j' x' p2 r2).1; omega
    · have n1 := (inv.new k' x' p2 r2).2.1; have n2 := (hnew j x p1 r1).1; omega
    · rw [hinj j j' x x' p1 p2 r1 r2 e]
  · intro k x h1 r1
    rcases b4 k x h1 with p1 | ⟨j, rfl, p1⟩
    · obtain ⟨n1, n2, n3⟩ := inv.new k x p1 r1
      exact ⟨n1, by omega, fun hs => (hnews _ hs).elim n3 (fun h => by omega)⟩
    · obtain ⟨n1, n2, n3⟩ := hnew j x p1 r1
      exact ⟨fun hs => by have := inv.base _ hs; omega, n2, n3⟩
  · intro k x h1
    rcases b4 k x h1 with p1 | ⟨j, rfl, p1⟩
    · obtain ⟨bl, a1, a2, a3⟩ := inv.dom k x p1
      refine ⟨bl, ?_, fun hr => (a2 hr).go g (hbelow.block _ (inv.new k x p1 hr).2.1), a3⟩
      rw [hmg]
      have : mget (H.map fun q => (renK d q.1, q.2)) k = none := by
        cases hk : mget (H.map fun q => (renK d q.1, q.2)) k with
        | none => rfl
        | some y =>
          have hm := mget_mem hk
          simp only [List.mem_map] at hm
          obtain ⟨q, hq, e⟩ := hm
          have := (freshAll_spec hfr q hq).1
          rw [show renK d q.1 = k from congrArg Prod.fst e, a1] at this
          cases this
      rw [this]
      exact a1
    · obtain ⟨bl, a1, a2, a3, a4⟩ := hdom j x p1
      refine ⟨bl, by rw [hmg, mget_ren, a1]; rfl, fun hr => ?_, fun hr => ⟨a4 hr, a2⟩⟩
      obtain ⟨cs, ty, c1, c2, c3, c4, c5, c6, c7, c8⟩ := a3 hr
      refine ⟨cs, ty, c1, c2, c3, c4, c5, c6, c7, fun i row hi => ⟨(c8 i row hi).1, fun q y hy => ?_⟩⟩
      obtain ⟨u, hu, hru⟩ := (c8 i row hi).2 q y hy
      rw [a2] at hru
      exact ⟨u, hu, by rw [a2]; simpa using hru⟩
  · intro k bl h1
    rw [hmg] at h1
    cases hy : mget (H.map fun q => (renK d q.1, q.2)) k with
    | some y =>
      have hm := mget_mem hy
      simp only [List.mem_map] at hm
      obtain ⟨q, hq, e⟩ := hm
      have e1 : renK d q.1 = k := congrArg Prod.fst e
      rw [← e1, mget_ren] at hy
      obtain ⟨x, hx⟩ := hcov q.1 y hy
      exact ⟨x, by rw [← e1]; exact b3 q.1 x hx⟩
    | none =>
      rw [hy] at h1
      obtain ⟨x, hx⟩ := inv.cov k bl h1
      exact ⟨x, b2 k x hx⟩
theorem eff_call (hF : FnOK P E) (hH : ∀ f args r H, (E.fn f args).val = some (r, H) → Here P f) (inv : Inv E B w S β h) {c : Call} {fo : Operand} (ho : o.op = .call c) (hc : c.callee = .value fo) {f : FuncId} {caps : List AV} (hf : RV w S β (.fn f caps) (a.eval fo))
    {uargs : List AV} (hargs : RL (RV w S β) uargs (c.args.toList.map a.eval)) {p : AV × Heap} (hp : (callK E (mget h) o.dst f (uargs ++ caps)).val = some p) : EffOK P E B o a w S β h p.1 p.2 := by
  obtain ⟨cvs, hfv, hcaps⟩ := (show RC w S β (.fn f caps) (a.eval fo) from hf)
  have hall : RL (RV w S β) (uargs ++ caps) (c.args.toList.map a.eval ++ cvs) := hargs.append (hcaps.imp fun b hb u hu => by
    by_cases hn : ∃ g cs, b = .fn g cs
    · obtain ⟨g, cs, rfl⟩ := hn
      cases (show R0 w S (.fn g cs) u from hu) with | fn => exact ⟨[], rfl, trivial⟩
    · exact RT.rv (RC.rt (by rw [RC_eq (fun g cs e => hn ⟨g, cs, e⟩)]; exact hu)))
  unfold callK at hp
  split at hp
  · rename_i hcond
    simp only [T.bind_some] at hp
    obtain ⟨⟨r, H⟩, hE, hp⟩ := hp
    have hrun := run_enter (P := P) (w := w) (hH f _ r H hE) ho hc hfv
    have hspec := hF.spec f _ r H hE
    have main : ∀ S1 : Nat → Prop, (∀ b, S b → S1 b) → (∀ b, S1 b → b < w.heap.size) → (∀ x ∈ uargs ++ caps, Sees w S β (mget h) S1 (refs2 x)) →
        Calls P f ((c.args.toList.map a.eval) ++ cvs).toArray w fun e w' => ∃ v S' β', e = .returned v ∧ Below w.heap.size w w' ∧ (∀ b, S1 b → S' b) ∧ (∀ b, S' b → S1 b ∨ w.heap.size ≤ b) ∧
      (∀ b, S' b → b < w'.heap.size) ∧
      (∀ k k' x x', β' k = some x → β' k' = some x' → x.real = true → x'.real = true → x.b = x'.b → k = k') ∧
      (∀ k x, β' k = some x → x.real = true → w.heap.size ≤ x.b ∧ x.b < w'.heap.size ∧ ¬ S' x.b) ∧
      (∀ k x, β' k = some x → ∃ bl, mget H k = some bl ∧ bl.box = false ∧ (x.real = true → BlkOK w' S' noKeys bl x) ∧ (x.real = false → bl.rows = [])) ∧
      (∀ k bl, mget H k = some bl → ∃ x, β' k = some x) ∧ RV w' S' β' r v := by
      intro S1 h1 h2 h3
      exact hspec w S1 _ h2 (fun g row hg => (inv.glob g row hg).mono (fun _ _ => rfl) h1) (hall.map fun b hb u hu => view2_rep h1 (h3 b hb) hu)
    intro K Q hK
    unfold Oper.wp
    rw [hrun, Oper.upon_enter]
    by_cases hfl : E.flat f = true
    · obtain ⟨hfH, hflat⟩ := hF.flat f _ r H hE hfl
      refine (main (plusOwn S β) (fun b hb => .inl hb) (fun b hb => ?_) (fun x _ => sees_own inv _)).mono ?_
      · rcases hb with hb | ⟨k, x, h1, h2, rfl⟩
        · exact inv.lt b hb
        · exact (inv.new k x h1 h2).2.1
      · rintro e w' ⟨v, S', β', rfl, hbel, h1, h2, h3, h4, h5, h6, h7, hrv⟩
        let S2 : Nat → Prop := fun b => S b ∨ (S' b ∧ w.heap.size ≤ b)
        have g1 : ∀ b, S b → S2 b := fun b hb => .inl hb
        have g2 : ∀ b, S2 b → S b ∨ w.heap.size ≤ b := fun b hb => hb.imp id (fun h => h.2)
        have g3 : ∀ b, S2 b → b < w'.heap.size := fun b hb => hb.elim (fun h => Nat.lt_of_lt_of_le (inv.lt b h) hbel.size) (fun h => h3 b h.1)
        have g5 : ∀ k x, β' k = some x → x.real = true → w.heap.size ≤ x.b ∧ x.b < w'.heap.size ∧ ¬ S2 x.b := fun k x hx hr => by
          obtain ⟨q1, q2, q3⟩ := h5 k x hx hr
          refine ⟨q1, q2, fun hs => hs.elim (fun h => ?_) (fun h => q3 h.1)⟩
          have := inv.lt _ h; omega
        have g6 : ∀ k x, β' k = some x → ∃ bl, mget H k = some bl ∧ bl.box = false ∧ (x.real = true → BlkOK w' S2 noKeys bl x) ∧ (x.real = false → bl.rows = []) := fun k x hx => by
          obtain ⟨bl, q1, q2, q3, q4⟩ := h6 k x hx
          refine ⟨bl, q1, q2, fun hr => ?_, q4⟩
          obtain ⟨cs, ty, c1, c2, c3, c4, c5, c6, c7, c8⟩ := q3 hr
          refine ⟨cs, ty, c1, c2, c3, c4, c5, c6, c7, fun i row hi => ⟨(c8 i row hi).1, fun q y hy => ?_⟩⟩
          obtain ⟨u, hu, hru⟩ := (c8 i row hi).2 q y hy
          refine ⟨u, hu, ?_⟩
          rw [q2] at hru ⊢
          have hfl0 : flat0 y = true := by
            have a1 := List.all_eq_true.1 hfH _ (mget_mem q1)
            have a2 := List.all_eq_true.1 a1 row (List.mem_of_getElem? hi)
            exact List.all_eq_true.1 a2 y (List.mem_of_getElem? hy)
          simp only [Bool.false_eq_true, if_false] at hru ⊢
          cases y <;> first | (simp [flat0] at hfl0; done) | skip
          · exact .unk hru.one
          · cases hru with | v h => exact .v h
        have hrv' : RV w' S2 β' r v := frs2_rv hflat hrv
        split at hp
        · rename_i d _
          split at hp
          · rename_i hck
            simp only [Bool.and_eq_true] at hck
            obtain ⟨⟨k1, k2⟩, k3⟩ := hck
            rw [T.ret_some] at hp
            subst hp
            obtain ⟨β2, i1, gg, b3⟩ := inv_call (d := d) inv hbel g1 g2 g3 h4 g5 g6 h7 k2 k3
            exact hK v w' S2 β2 i1 gg (ren2_rv (fun k _ => b3 k) hrv')
          · rw [T.fail_some] at hp; exact hp.elim
        · rw [T.ret_some] at hp
          subst hp
          obtain ⟨β2, i1, gg, _⟩ := inv_call (β' := noKeys) (S' := S2) (H := []) (d := 0) inv hbel g1 g2 g3 (fun _ _ _ _ h => by cases h) (fun _ _ h => by cases h) (fun _ _ h => by cases h) (fun _ _ h => by cases h) rfl rfl
          exact hK v w' S2 β2 i1 gg trivial
    · have hno : noRefs (uargs ++ caps) = true := by simpa [hfl] using hcond
      have hno' : ∀ x ∈ uargs ++ caps, refs2 x = [] := fun x hx => by
        have := List.all_eq_true.1 hno x hx
        split at this
        · assumption
        · cases this
      refine (main S (fun _ h => h) inv.lt (fun x hx => by rw [hno' x hx]; exact sees_nil)).mono ?_
      rintro e w' ⟨v, S', β', rfl, hbel, h1, h2, h3, h4, h5, h6, h7, hrv⟩
      split at hp
      · rename_i d _
        split at hp
        · rename_i hck
          simp only [Bool.and_eq_true] at hck
          obtain ⟨⟨k1, k2⟩, k3⟩ := hck
          rw [T.ret_some] at hp
          subst hp
          obtain ⟨β2, i1, g1, b3⟩ := inv_call (d := d) inv hbel h1 h2 h3 h4 h5 h6 h7 k2 k3
          exact hK v w' S' β2 i1 g1 (ren2_rv (fun k _ => b3 k) hrv)
        · rw [T.fail_some] at hp; exact hp.elim
      · rw [T.ret_some] at hp
        subst hp
        obtain ⟨β2, i1, g1, _⟩ := inv_call (β' := noKeys) (S' := S') (H := []) (d := 0) inv hbel h1 h2 h3 (fun _ _ _ _ h => by cases h) (fun _ _ h => by cases h) (fun _ _ h => by cases h) (fun _ _ h => by cases h) rfl rfl
        exact hK v w' S' β2 i1 g1 trivial
  · rw [T.fail_some] at hp; exact hp.elim
end

end

section

variable {P : Program} {E : Env}
structure EnvOK (P : Program) (E : Env) : Prop where
  ty : TyOK P E
  fn : FnOK P E
  here : ∀ f args r H, (E.fn f args).val = some (r, H) → Here P f
  spech : ∀ f args hin r hout mv, (E.fh f args hin).val = some (r, hout, mv) → SpecH P E.glob f args hin r hout mv
  hereh : ∀ f args hin p, (E.fh f args hin).val = some p → Here P f

section
variable {B : Nat → Prop} {o : Oper} {a : Act} {w w' : World} {S S' : Nat → Prop} {β β' : Nat → Option BI} {h : Heap} {av : AV} {v : Value} {ρ : Operand → AV}
theorem eff_of (inv : Inv E B w S β h) {t : T AV} {f : Sem Value} (he : execOp a.eval o = (do let x ← f; pure (.value x))) (hr : ∀ r, t.val = some r → ∃ u, f.run P w = .ok u w ∧ RV w S β r u) {p : AV × Heap} (hp : t.plain.val = some p) :
    EffOK P E B o a w S β h p.1 p.2 := by
  rw [T.plain_some] at hp
  obtain ⟨r, h1, rfl⟩ := hp
  obtain ⟨u, h2, h3⟩ := hr r h1
  exact eff_val inv (by rw [he]; simp [h2]) h3
theorem args_rl (hρ : Args w S β ρ a) : ∀ l : List Operand, RL (RV w S β) (l.map ρ) (l.map a.eval)
  | [] => trivial
  | x :: l => ⟨hρ x, args_rl hρ l⟩
theorem eff_sound (ok : EnvOK P E) (inv : Inv E B w S β h) (hρ : Args w S β ρ a)
    (hpk : ∀ (c : Nat) (b : Bool), ρ (.tmp c) = .v (.bool b) → ∀ x j bb want y, ρ x = .gd j bb want y → j = c → (bb = true ↔ b = want)) {p : AV × Heap} (hp : (eff E ρ (mget h) o).val = some p) : EffOK P E B o a w S β h p.1 p.2 := by
  have hT := ok.ty
  unfold eff at hp
  split at hp
  · -- move
    rename_i x ho
    rw [show plain (ρ x) = .ret (ρ x, []) from rfl, T.ret_some] at hp
    subst hp
    exact eff_move inv hρ (.inl ho)
  · -- assign
    rename_i x ho
    split at hp
    · rename_i h0
      split at hp
      · split at hp
        · exact eff_virt inv (hρ x) h0 ho _ _ hp
        · rw [T.fail_some] at hp; exact hp.elim
      · rw [show plain (ρ x) = .ret (ρ x, []) from rfl, T.ret_some] at hp
        subst hp
        exact eff_move inv hρ (.inr ho)
    · rw [show plain (ρ x) = .ret (ρ x, []) from rfl, T.ret_some] at hp
      subst hp
      exact eff_move inv hρ (.inr ho)
  · -- pick
    rename_i c x y ho
    split at hp
    · rename_i c
      split at hp
      · rename_i b hb
        have hb' := boolOf_some hb
        have hc := hρ (.tmp c)
        rw [hb'] at hc
        obtain ⟨hcv, _⟩ := rv_v hc
        refine eff_of inv (f := do pure (if ← asBool (a.eval (.tmp c)) then a.eval x else a.eval y)) (by simp [execOp, ho]) (fun r hr => ⟨if b then a.eval x else a.eval y, by rw [hcv]; simp [asBool], ?_⟩) hp
        exact run_pick (hρ x) (hρ y) (fun j bb want z hz hj => hpk c b hb' x j bb want z hz hj) (fun j bb want z hz hj => hpk c b hb' y j bb want z hz hj) hr
      · rw [T.fail_some] at hp; exact hp.elim
    · rw [T.fail_some] at hp; exact hp.elim
  · -- binOp
    rename_i op t x y t2 ho
    split at hp
    · rename_i hy
      have hy : y = .const (.slice none 0 0) := by
        unfold isNilC at hy
        split at hy
        · rfl
        · cases hy
      subst hy
      exact eff_of inv (f := do eqGuard op t x (.const (.slice none 0 0)) (a.eval x) (.slice none 0 0); binOp op t (a.eval x) (.slice none 0 0)) (by simp [execOp, ho, Act.eval]) (fun r hr => run_nilK hT op t x _ (hρ x) hr) hp
    exact eff_of inv (f := do eqGuard op t x y (a.eval x) (a.eval y); binOp op t (a.eval x) (a.eval y)) (by simp [execOp, ho]) (fun r hr => run_binK hT op t x y (hρ x) (hρ y) hr) hp
  · rename_i op t x ho
    exact eff_of inv (f := Op.unary op (a.eval x)) (by simp [execOp, ho]) (fun r hr => run_unK op (hρ x) hr) hp
  · -- convert
    rename_i t0 t x ho
    split at hp
    · rename_i ti hti
      split at hp
      · rename_i kd hkd
        split at hp
        · rename_i n hn
          rw [show plain (.v (.int kd (kd.wrap n))) = .ret (.v (.int kd (kd.wrap n)), []) from rfl, T.ret_some] at hp
          subst hp
          split at hkd
          · rename_i ti0 hti0
            obtain ⟨i0, d0, z0, sp0⟩ := hT.spec hti0
            obtain ⟨i, d, z, sp⟩ := hT.spec hti
            rw [sp.kind] at hkd
            cases d <;> simp [kindOf] at hkd
            subst hkd
            obtain ⟨k0, hx⟩ := intOfA_some hn
            have hx' := hρ x
            rw [hx] at hx'
            obtain ⟨hxv, _⟩ := rv_v hx'
            refine eff_val (v := .int _ (IntKind.wrap _ n)) inv ?_ (rv_mk (wrap_ok _ _))
            simp only [execOp, ho, convert, Sem.run_bind, run_underlying sp0.und, run_underlying sp.und, Result.andThen_ok, hxv]
            cases d0 <;> simp [Conv.intToInt]
          · cases hkd
        · rw [T.fail_some] at hp; exact hp.elim
      · rw [T.fail_some] at hp; exact hp.elim
    · rw [T.fail_some] at hp; exact hp.elim
  · -- extract
    rename_i x i ho
    split at hp
    · rename_i vs hx
      have hx' := hρ x
      rw [hx] at hx'
      obtain ⟨us, hus, hr⟩ := rv_tup hx'
      refine eff_of inv (f := Instr.extract (a.eval x) i) (by simp [execOp, ho]) (fun r hrr => ?_) hp
      simp only [T.opt_some, T.ret_some] at hrr
      obtain ⟨y, hy, rfl⟩ := hrr
      obtain ⟨u, hu, hru⟩ := hr.get hy
      exact ⟨u, by simp [hus, Instr.extract, hu], RT.rv hru⟩
    · rw [T.fail_some] at hp; exact hp.elim
  · -- field
    rename_i s x f ho
    split at hp
    · rename_i off ag n hf
      exact eff_of inv (f := Instr.field s (a.eval x) f) (by simp [execOp, ho]) (fun r hr => run_field hT hf (hρ x) hr) hp
    · rw [T.fail_some] at hp; exact hp.elim
  · rename_i s x f ho
    split at hp
    · rename_i off ag n hf
      exact eff_of inv (f := Instr.fieldAt s (a.eval x) f) (by simp [execOp, ho]) (fun r hr => run_fieldAddr hT hf (hρ x) hr) hp
    · rw [T.fail_some] at hp; exact hp.elim
  · -- nilCheck
    rename_i x ho
    rw [T.plain_some] at hp
    obtain ⟨r, h1, rfl⟩ := hp
    obtain ⟨u, h2, h3⟩ := run_nilCheck ho (hρ x) h1
    exact eff_val inv (by rw [h2]; rfl) h3
  · rename_i t x i ho
    split at hp
    · rename_i ti hti
      split at hp
      · rename_i hd
        exact eff_of inv (f := Instr.indexAt t (a.eval x) (a.eval i)) (by simp [execOp, ho]) (fun r hr => run_indexK hT inv hti hd (hρ x) (hρ i) hr) hp
      · exact eff_of inv (f := Instr.indexAt t (a.eval x) (a.eval i)) (by simp [execOp, ho]) (fun r hr => run_indexA hT inv hti (hρ x) (hρ i) hr) hp
    · rw [T.fail_some] at hp; exact hp.elim
  · rename_i t x i ho
    split at hp
    · rename_i hd
      exact eff_of inv (f := Instr.index t (a.eval x) (a.eval i)) (by simp [execOp, ho]) (fun r hr => run_indexS hT hd (hρ x) (hρ i) hr) hp
    · rw [T.fail_some] at hp; exact hp.elim
  · rename_i t x ho
    split at hp
    · rename_i ti hti
      exact eff_of inv (f := Instr.loadAt t (a.eval x)) (by simp [execOp, ho]) (fun r hr => run_loadK hT inv hti (hρ x) hr) hp
    · rw [T.fail_some] at hp; exact hp.elim
  · rename_i t ho
    split at hp
    · rename_i ti hti
      split at hp
      · exact eff_alloc hT inv ho hti hp
      · rename_i ha
        exact eff_allocA hT inv ho hti (beq_false.1 ha) hp
    · rw [T.fail_some] at hp; exact hp.elim
  · rename_i t x ho
    split at hp
    · rename_i ti hti
      split at hp
      · rename_i hc
        simp only [Bool.and_eq_true] at hc
        exact eff_box hT inv ho (hρ x) hc.1 hp
      · rw [T.fail_some] at hp; exact hp.elim
    · rw [T.fail_some] at hp; exact hp.elim
  · rename_i t parts ho
    split at hp
    · rename_i ti hti
      split at hp
      · split at hp
        · rename_i cs hcs
          split at hcs
          · rename_i hd5
            rw [show plain (.agg cs) = .ret (.agg cs, []) from rfl, T.ret_some] at hp
            subst hp
            obtain ⟨u, h1, h2⟩ := run_buildS (P := P) (w := w) hT hti hρ parts hd5 hcs
            exact eff_val inv (by simp only [execOp, ho, Sem.run_bind, h1, Result.andThen_ok, Sem.run_pure]) h2
          · cases hcs
        · rw [T.fail_some] at hp; exact hp.elim
      · rename_i ha
        split at hp
        · rename_i hc
          rw [show plain (.agg (parts.toList.flatMap fun p => cellsOf (ρ p.2))) = .ret (.agg (parts.toList.flatMap fun p => cellsOf (ρ p.2)), []) from rfl, T.ret_some] at hp
          subst hp
          obtain ⟨u, h1, h2⟩ := run_buildA (P := P) (w := w) hT hti hρ parts (beq_false.1 ha) hc
          exact eff_val inv (by simp only [execOp, ho, Sem.run_bind, h1, Result.andThen_ok, Sem.run_pure]) h2
        · rw [T.fail_some] at hp; exact hp.elim
    · rw [T.fail_some] at hp; exact hp.elim
  · rename_i t n parts ho
    split at hp
    · rename_i ti hti
      split at hp
      · rename_i hc
        split at hp
        · exact eff_buildPtrs hT inv hti hρ n parts ho hc hp
        · exact eff_buildSlice hT inv hti hρ n parts ho hc hp
      · rw [T.fail_some] at hp; exact hp.elim
    · rw [T.fail_some] at hp; exact hp.elim
  · rename_i t x y ho
    split at hp
    · rename_i ti hti
      exact eff_make hT inv hti (hρ x) (hρ y) ho hp
    · rw [T.fail_some] at hp; exact hp.elim
  · rename_i t x y ho
    split at hp
    · rename_i ti hti
      exact eff_store hT inv ho hti (hρ x) (hρ y) hp
    · rw [T.fail_some] at hp; exact hp.elim
  · -- slice
    rename_i t x lo hi mx ho
    split at hp
    · rename_i ti hti
      split at hp
      · rename_i hw
        rw [Bool.and_eq_true] at hw
        have hmx : mx = none := by cases mx <;> first | rfl | (simp at hw)
        subst hmx
        exact eff_of inv (f := Instr.sliceAt t (a.eval x) (lo.map a.eval) (hi.map a.eval) none) (by simp [execOp, ho]) (fun r hr => run_winX hT inv hti (hρ x) hρ lo hi hr) hp
      refine eff_of inv (f := Instr.sliceAt t (a.eval x) (lo.map a.eval) (hi.map a.eval) (mx.map a.eval)) (by simp [execOp, ho]) (fun r hr => ?_) hp
      unfold sliceK at hr
      split at hr
      · rename_i hmx
        have hmx' : mx = none := by cases mx <;> first | rfl | (simp [optA] at hmx)
        subst hmx'
        split at hr
        · rename_i rows hx
          have hx' := hρ x
          rw [hx] at hx'
          split at hr
          · rename_i hd
            exact run_cutRows hT hti hd (rv_sl hx') hρ lo hi hr
          · rw [T.fail_some] at hr; exact hr.elim
        · rename_i s hx
          have hx' := hρ x
          rw [hx] at hx'
          obtain ⟨hxv, hok⟩ := rv_v hx'
          rw [hxv]
          split at hr
          · rename_i hd
            exact run_cutStr hT hti hd hok hρ lo hi hr
          · rw [T.fail_some] at hr; exact hr.elim
        · rw [T.fail_some] at hr; exact hr.elim
      · rename_i mxa hmx
        split at hr
        · rename_i hz
          simp only [Bool.and_eq_true] at hz
          obtain ⟨⟨⟨z1, z2⟩, z3⟩, hd⟩ := hz
          obtain ⟨i, d, z, sp⟩ := hT.spec hti
          obtain ⟨ei, rfl, he, hes, _⟩ := sp.isSlice hd
          have zero : ∀ q : Option Operand, isZero (optA ρ q) = true → ∃ y k, q = some y ∧ a.eval y = .int k 0 := by
            intro q hq
            cases q with
            | none => simp [optA, isZero] at hq
            | some y =>
              simp only [optA, isZero] at hq
              split at hq
              · rename_i k hk
                simp only [Option.some.injEq] at hk
                have := hρ y
                rw [hk] at this
                exact ⟨y, k, rfl, (rv_v this).1⟩
              · cases hq
          obtain ⟨y1, k1, rfl, v1⟩ := zero mx (by rw [hmx]; exact hmx ▸ z1)
          obtain ⟨y2, k2, rfl, v2⟩ := zero hi z2
          have hlo : lo = none := by cases lo <;> first | rfl | (simp [optA] at z3)
          subst hlo
          have key : ∀ A len cap, a.eval x = .slice A len cap → r = .e0 → ∃ u, (Instr.sliceAt t (a.eval x) (Option.map a.eval none) (Option.map a.eval (some y2)) (Option.map a.eval (some y1))).run P w = .ok u w ∧ RV w S β r u := by
            rintro A len cap hx rfl
            refine ⟨.slice A 0 0, ?_, A, rfl⟩
            simp [Instr.sliceAt, run_underlying sp.und, hx, Instr.slice, Instr.sliceBounds, v1, v2, Instr.sliceBound, asIntOf, run_size w he]
          split at hr
          · rename_i rows hx
            have hx' := hρ x
            rw [hx] at hx'
            obtain ⟨A, cap, hv, _⟩ := R0.len (rv_sl hx')
            rw [T.ret_some] at hr
            exact key A _ cap hv hr.symm
          · rename_i k hx
            have hx' := hρ x
            rw [hx] at hx'
            obtain ⟨X, hX, g1, g2⟩ := rv_own hx'
            rw [T.ret_some] at hr
            cases hrr : X.real
            · obtain ⟨A, hv⟩ := g2 hrr; exact key A _ _ hv hr.symm
            · exact key _ _ _ (g1 hrr) hr.symm
          · rename_i hx
            have hx' := hρ x
            rw [hx] at hx'
            obtain ⟨A, hv⟩ := rv_e0 hx'
            rw [T.ret_some] at hr
            exact key A _ _ hv hr.symm
          · rw [T.fail_some] at hr; exact hr.elim
        · rw [T.fail_some] at hr; exact hr.elim
    · rw [T.fail_some] at hp; exact hp.elim
  · -- makeFunc
    rename_i fn first captured ho
    split at hp
    · rename_i f
      split at hp
      · rename_i hfirst
        split at hp
        · rename_i hcap
          rw [show plain (.fn f (captured.toList.map ρ)) = .ret (.fn f (captured.toList.map ρ), []) from rfl, T.ret_some] at hp
          subst hp
          have hf0 : first = #[] := by cases first; simp at hfirst; simp [hfirst]
          subst hf0
          refine eff_val (v := .func (.func f) #[] (captured.toList.map a.eval).toArray) inv ?_ ⟨_, rfl, ?_⟩
          · simp [execOp, ho, Instr.makeFunc]; apply Array.ext'; simp
          · refine (args_rl hρ captured.toList).imp fun b hb u hu => ?_
            have := List.all_eq_true.1 hcap b hb
            cases b <;> first | exact hu | (simp [capOK] at this)
        · rw [T.fail_some] at hp; exact hp.elim
      · rw [T.fail_some] at hp; exact hp.elim
    · rw [T.fail_some] at hp; exact hp.elim
  · -- calls
    rename_i c ho
    split at hp
    · rename_i b hb
      obtain ⟨callee, args, ts⟩ := c
      simp only at hb hp
      subst hb
      unfold builtinK at hp
      split at hp
      · split at hp
        · rename_i x t hargs hts
          obtain rfl : args = #[x] := by cases args; simp at hargs; simp [hargs]
          obtain rfl : ts = #[t] := by cases ts; simp at hts; simp [hts]
          split at hp
          · rename_i ti hti
            exact eff_of inv (f := Builtin.len_ #[t] o.type #[a.eval x]) (by simp [execOp, ho, resolve, invoke, builtin]) (fun r hr => run_lenK hT inv hti o.type (hρ x) hr) hp
          · rw [T.fail_some] at hp; exact hp.elim
        · rw [T.fail_some] at hp; exact hp.elim
      · split at hp
        · rename_i x y hargs
          obtain rfl : args = #[x, y] := by cases args; simp at hargs; simp [hargs]
          exact eff_of inv (f := Builtin.max_ ts o.type #[a.eval x, a.eval y]) (by simp [execOp, ho, resolve, invoke, builtin]) (fun r hr => (run_minmax ts o.type (hρ x) (hρ y)).1 hr) hp
        · rw [T.fail_some] at hp; exact hp.elim
      · split at hp
        · rename_i x y hargs
          obtain rfl : args = #[x, y] := by cases args; simp at hargs; simp [hargs]
          exact eff_of inv (f := Builtin.min_ ts o.type #[a.eval x, a.eval y]) (by simp [execOp, ho, resolve, invoke, builtin]) (fun r hr => (run_minmax ts o.type (hρ x) (hρ y)).2 hr) hp
        · rw [T.fail_some] at hp; exact hp.elim
      · split at hp
        · rename_i x y t t' hargs hts
          obtain rfl : args = #[x, y] := by cases args; simp at hargs; simp [hargs]
          obtain rfl : ts = #[t, t'] := by cases ts; simp at hts; simp [hts]
          split at hp
          · rename_i htt
            obtain rfl := beq_true.1 htt
            exact eff_app0 hT inv (hρ x) (hρ y) ho hp
          · rw [T.fail_some] at hp; exact hp.elim
        · rw [T.fail_some] at hp; exact hp.elim
      · split at hp
        · rename_i x t hargs hts
          obtain rfl : args = #[x] := by cases args; simp at hargs; simp [hargs]
          obtain rfl : ts = #[t] := by cases ts; simp at hts; simp [hts]
          split at hp
          · rename_i ti hti
            exact eff_clear hT inv hti (hρ x) ho hp
          · rw [T.fail_some] at hp; exact hp.elim
        · rw [T.fail_some] at hp; exact hp.elim
      · split at hp
        · rename_i x y t t' hargs hts
          obtain rfl : args = #[x, y] := by cases args; simp at hargs; simp [hargs]
          obtain rfl : ts = #[t, t'] := by cases ts; simp at hts; simp [hts]
          split at hp
          · rename_i ti hti
            exact eff_copy hT inv hti (hρ x) (hρ y) ho hp
          · rw [T.fail_some] at hp; exact hp.elim
        · rw [T.fail_some] at hp; exact hp.elim
      · rw [T.fail_some] at hp; exact hp.elim
    · rename_i fo hb
      split at hp
      · rename_i f caps hf
        have hf' := hρ fo
        rw [hf] at hf'
        split at hp
        · exact eff_call ok.fn ok.here inv ho hb hf' (args_rl hρ _) hp
        · rw [T.fail_some] at hp; exact hp.elim
      · rw [T.fail_some] at hp; exact hp.elim
    · rw [T.fail_some] at hp; exact hp.elim
  · rw [T.fail_some] at hp; exact hp.elim
end

end

section

variable {P : Program} {E : Env}

def GdOK (t : Tmps) (a : Act) : Prop := ∀ n j f want x, getT t n = .gd j f want x → mget t j ≠ none ∧ (f = true ↔ a.tmps.getD j undef = .bool want)
theorem getT_map (t : Tmps) (f : AV → AV) (hf : f .unk = .unk) (n : Nat) : getT (t.map fun p => (p.1, f p.2)) n = f (getT t n) := by
  unfold getT; rw [mget_map]; cases mget t n <;> simp [hf]
theorem getT_undo (t : Tmps) (d n : Nat) : getT (undo t d) n = getT t n ∨ (getT (undo t d) n = .unk ∧ gdOf d (getT t n) = true) := by
  unfold undo
  split
  · exact .inl rfl
  · rw [getT_map t (unGd d) rfl n]
    unfold unGd
    split
    · exact .inr ⟨rfl, ‹_›⟩
    · exact .inl rfl
theorem gdOf_true {d : Nat} {x : AV} (h : gdOf d x = true) : ∃ b want y, x = .gd d b want y := by
  cases x <;> simp [gdOf] at h
  rename_i j b want y
  obtain rfl := h
  exact ⟨b, want, y, rfl⟩
section
variable {B : Nat → Prop} {N : Nat} {β0 : Nat → Option BI} {o : Oper} {a : Act} {w w' : World} {S S' S0 : Nat → Prop} {β β' : Nat → Option BI} {h : Heap} {av : AV} {v : Value} {t : Tmps}
theorem put_get (a : Act) (d n : Nat) (v : Value) (hd : d < a.tmps.size) : (a.put (some d) v).tmps.getD n undef = if n = d then v else a.tmps.getD n undef := by
  simp only [Act.put, Array.getD_eq_getD_getElem?, Array.getElem?_setIfInBounds]
  by_cases e : n = d
  · subst e; simp [hd]
  · simp [e, Ne.symm e]
theorem TOK.put (ht : TOK w S β t a) {dst : Option Tmp} (hd : ∀ d, dst = some d → d < a.tmps.size) (hv : RV w S β av v) : TOK w S β (setD t dst av) (a.put dst v) := by
  cases dst with
  | none => exact ht
  | some d =>
    intro n
    rw [put_get a d n v (hd d rfl)]
    simp only [setD, getT_mset]
    by_cases e : n = d
    · rw [if_pos e, if_pos e]; exact hv
    · rw [if_neg e, if_neg e]
      rcases getT_undo t d n with h1 | ⟨h1, _⟩
      · rw [h1]; exact ht n
      · rw [h1]; trivial
theorem mget_undo (t : Tmps) (d n : Nat) : mget (undo t d) n = none ↔ mget t n = none := by
  unfold undo
  split
  · exact Iff.rfl
  · rw [mget_map]; cases mget t n <;> simp
theorem put_other (a : Act) (d n : Nat) (v : Value) (h : n ≠ d) : (a.put (some d) v).tmps.getD n undef = a.tmps.getD n undef := by
  simp only [Act.put, Array.getD_eq_getD_getElem?, Array.getElem?_setIfInBounds]
  simp [Ne.symm h]
theorem GdOK.set (hg : GdOK t a) (dst : Option Tmp) (u : Value) (hv : ∀ d j f want x, dst = some d → av = .gd j f want x → j ≠ d ∧ mget t j ≠ none ∧ (f = true ↔ a.tmps.getD j undef = .bool want)) : GdOK (setD t dst av) (a.put dst u) := by
  cases dst with
  | none => exact hg
  | some d =>
    intro n j f want x hn
    simp only [setD, getT_mset] at hn
    have keep : j ≠ d → mget t j ≠ none → (f = true ↔ a.tmps.getD j undef = .bool want) → mget (setD t (some d) av) j ≠ none ∧ (f = true ↔ (a.put (some d) u).tmps.getD j undef = .bool want) := by
      intro hj h1 h2
      refine ⟨?_, by rw [put_other a d j u hj]; exact h2⟩
      simp only [setD, mget_mset, if_neg hj]
      exact fun hh => h1 ((mget_undo t d j).1 hh)
    by_cases e : n = d
    · rw [if_pos e] at hn
      obtain ⟨h1, h2, h3⟩ := hv d j f want x rfl hn
      exact keep h1 h2 h3
    · rw [if_neg e] at hn
      rcases getT_undo t d n with h1 | ⟨h1, _⟩
      · rw [h1] at hn
        obtain ⟨g1, g2⟩ := hg n j f want x hn
        by_cases hjd : j = d
        · subst hjd
          exfalso
          unfold undo at h1
          split at h1
          · exact g1 ‹_›
          · rw [getT_map t (unGd j) rfl n, hn] at h1
            simp [unGd, gdOf] at h1
        · exact keep hjd g1 g2
      · rw [h1] at hn; cases hn

structure Rel (E : Env) (B : Nat → Prop) (N : Nat) (w0 : World) (S0 : Nat → Prop) (β0 : Nat → Option BI) (s : St) (a : Act) (w : World) (S : Nat → Prop) (β : Nat → Option BI) : Prop where
  inv : Inv E B w S β s.h
  tok : TOK w S β s.t a
  gd : GdOK s.t a
  below : Blw B w0 w
  sub : ∀ b, S0 b → S b
  news : ∀ b, S b → S0 b ∨ ¬ B b
  fix : ∀ k x, inK k → E.mv k = false → β k = some x → β0 k = some x
  size : a.tmps.size = N
  defers : a.defers = []
def RelE (E : Env) (B : Nat → Prop) (N : Nat) (w0 : World) (S0 : Nat → Prop) (β0 : Nat → Option BI) (s : St) (a : Act) (w : World) : Prop := ∃ S β, Rel E B N w0 S0 β0 s a w S β
variable {w0 : World} {s s' : St} {g : Option (Nat × Bool)}
theorem okConst_rv {x : Value} (hx : okConst x = true) : RV w S β (ofConst x) x := by
  have one : ∀ y, okConst1 y = true → okAtom y := by
    intro y hy
    unfold okConst1 at hy
    split at hy <;> first | trivial | (simpa [okAtom] using hy) | (cases hy)
  unfold okConst at hx
  split at hx
  · exact ⟨none, rfl⟩
  · rename_i cs
    refine ⟨cs.toList, by simp, ?_⟩
    have : ∀ l : List Value, (∀ y ∈ l, okConst1 y = true) → RL (RC w S β) (l.map .v) l := by
      intro l
      induction l with
      | nil => exact fun _ => trivial
      | cons y l ih => exact fun hl => ⟨R0.rc (.v (one y (hl y (by simp)))), ih fun z hz => hl z (by simp [hz])⟩
    exact this cs.toList fun y hy => List.all_eq_true.1 hx y hy
  · rename_i h1 h2
    have : ofConst x = .v x := by
      unfold ofConst
      split
      · exact absurd rfl h1
      · exact absurd rfl (h2 _)
      · rfl
    rw [this]
    exact rv_mk (one x hx)
def GuardOK (a : Act) (g : Option (Nat × Bool)) : Prop := ∀ d want, g = some (d, want) → a.tmps.getD d undef = .bool want
theorem Rel.args (rel : Rel E B N w0 S0 β0 s a w S β) (hg : GuardOK a g) : Args w S β (ρOf E g s.t) a := by
  intro x
  unfold ρOf
  cases x with
  | tmp n =>
    have hn := rel.tok n
    show RV w S β (ung g (getT s.t n)) (a.tmps.getD n undef)
    unfold ung
    split
    · rename_i i b wt y hy
      rw [hy] at hn
      split
      · rename_i d want
        split
        · rename_i hc
          simp only [Bool.and_eq_true] at hc
          obtain ⟨c1, c2⟩ := hc
          have c1 := beq_true.1 c1
          have c2 := asked_eq.1 c2
          subst c1 c2
          have hb := hg d wt rfl
          have := (rel.gd n d b wt y hy).2.2 hb
          have hz := hn.1 this
          unfold flatOnly
          split
          · trivial
          · trivial
          · exact RT.rv hz
        · exact hn
      · exact hn
    · exact hn
  | const v =>
    show RV w S β (ung g (ev E s.t (.const v))) v
    have h1 : ∀ y, RV w S β (ung g y) v → True := fun _ _ => trivial
    simp only [ev]
    split
    · rename_i hc
      have := okConst_rv (w := w) (S := S) (β := β) hc
      have hu : ung g (ofConst v) = ofConst v := by unfold ofConst; split <;> rfl
      rw [hu]; exact this
    · trivial
  | global gl =>
    simp only [ev]
    split
    · rename_i row hrow
      exact ⟨gl, 0, by simp [Act.eval], (rel.inv.glob gl row hrow).row⟩
    · trivial
  | func f => exact ⟨[], rfl, trivial⟩
theorem Rel.picks (rel : Rel E B N w0 S0 β0 s a w S β) (hg : GuardOK a g) : ∀ (c : Nat) (b : Bool), ρOf E g s.t (.tmp c) = .v (.bool b) → ∀ x j bb want y, ρOf E g s.t x = .gd j bb want y → j = c → (bb = true ↔ b = want) := by
  rintro c b hc x j bb want y hx rfl
  have hb : a.tmps.getD j undef = .bool b := by
    have := rel.args hg (.tmp j)
    rw [hc] at this
    exact (rv_v this).1
  have hgd : ∃ n, getT s.t n = .gd j bb want y := by
    unfold ρOf at hx
    cases x with
    | tmp n =>
      refine ⟨n, ?_⟩
      simp only [ev] at hx
      unfold ung at hx
      split at hx
      · rename_i i b0 w0' z hz
        split at hx
        · split at hx
          · unfold flatOnly at hx
            split at hx
            · cases hx
            · cases hx
            · rename_i hne _; exact absurd hx (hne _ _ _ _)
          · rw [hz]; exact hx
        · rw [hz]; exact hx
      · exact hx
    | const v =>
      simp only [ev] at hx
      split at hx
      · unfold ofConst at hx; split at hx <;> cases hx
      · cases hx
    | global gl => simp only [ev] at hx; split at hx <;> cases hx
    | func f => cases hx
  obtain ⟨n, hn⟩ := hgd
  have := (rel.gd n j bb want y hn).2
  rw [hb] at this
  rw [this]
  simp
end

end

section

variable {P : Program} {E : Env}
section
variable {B : Nat → Prop} {N : Nat} {β0 : Nat → Option BI} {o : Oper} {a : Act} {w w' w0 : World} {S S' S0 : Nat → Prop} {β β' : Nat → Option BI} {h : Heap} {av : AV} {v : Value} {t : Tmps} {s s' : St} {g : Option (Nat × Bool)}
def StepOK (P : Program) (E : Env) (B : Nat → Prop) (N : Nat) (w0 : World) (S0 : Nat → Prop) (β0 : Nat → Option BI) (o : Oper) (a : Act) (w : World) (s' : St) : Prop :=
  ∀ (K : Act → World → Prop) (Q : Exit → Act → World → Prop), (∀ a' w', RelE E B N w0 S0 β0 s' a' w' → K a' w') → o.wp P a w K Q
theorem noGd_rv (hr : RV w S β av v) : RV w S β (noGd av) v := by
  unfold noGd; split
  · trivial
  · exact hr
theorem noGd_ne {x : AV} {j : Nat} {b want : Bool} {y : AV} : noGd x ≠ .gd j b want y := by
  unfold noGd; split
  · simp
  · rename_i hne; exact fun e => hne _ _ _ _ e
theorem put_size (a : Act) (dst : Option Tmp) (v : Value) : (a.put dst v).tmps.size = a.tmps.size := by cases dst <;> simp [Act.put]
theorem put_defers (a : Act) (dst : Option Tmp) (v : Value) : (a.put dst v).defers = a.defers := by cases dst <;> simp [Act.put]
theorem norm_sound (ok : EnvOK P E) (rel : Rel E B N w0 S0 β0 s a w S β) (hg : GuardOK a g) (hd : ∀ d, o.dst = some d → d < N) {ws : List Nat} (hn : (norm E g s o).val = some (s', ws)) : StepOK P E B N w0 S0 β0 o a w s' := by
  unfold norm at hn
  rw [T.bind_some] at hn
  obtain ⟨p, hp, hn⟩ := hn
  rw [T.ret_some] at hn
  cases hn
  intro K Q hK
  refine eff_sound ok rel.inv (rel.args hg) (rel.picks hg) hp K Q fun v w' S' β' inv' gr hv => hK _ _ ⟨S', β', inv', ?_, ?_, rel.below.trans gr.below, fun b hb => gr.sub b (rel.sub b hb), fun b hb => (gr.news b hb).elim (rel.news b) .inr, fun k x hi hm hx => rel.fix k x hi hm (gr.old k x hi hx), by rw [put_size]; exact rel.size, by rw [put_defers]; exact rel.defers⟩
  · exact TOK.put (fun n => gr.rv (rel.tok n)) (fun d hdd => by rw [rel.size]; exact hd d hdd) (noGd_rv hv)
  · exact rel.gd.set _ _ fun d j b want x _ hx => absurd hx noGd_ne

theorem killA_gd {k : List Nat} {x : AV} {j : Nat} {b want : Bool} {y : AV} (hx : killA k x = .gd j b want y) : x = .gd j b want y := by
  unfold killA at hx; split at hx
  · cases hx
  · exact hx
theorem GdOK.kill (hg : GdOK t a) (k : List Nat) : GdOK (t.map fun p => (p.1, killA k p.2)) a := by
  intro n j b want x hn
  rw [getT_map t (killA k) rfl n] at hn
  obtain ⟨h1, h2⟩ := hg n j b want x (killA_gd hn)
  exact ⟨by rw [mget_map]; cases hm : mget t j <;> simp_all, h2⟩
theorem isIn_true {k : Nat} : isIn k = true ↔ inK k := by
  unfold isIn inK
  simp
theorem kfin_sound (rel : Rel E B N w0 S0 β0 s a w S β) (hd : ∀ d, o.dst = some d → d < N) {p : AV × Heap × List Nat} (hk : KOK P E B o a w S β s.h p.1 p.2.1 p.2.2) {wr : Option (List Nat × List Nat)} (hn : (kfin E s o.dst p).val = some (s', wr)) : StepOK P E B N w0 S0 β0 o a w s' := by
  unfold kfin at hn
  split at hn
  · rename_i hmv
    rw [T.ret_some] at hn
    cases hn
    intro K Q hK
    refine hk K Q fun v w' S' β' inv' gr hv => hK _ _ ⟨S', β', inv', ?_, ?_, rel.below.trans gr.below, fun b hb => gr.sub b (rel.sub b hb), fun b hb => (gr.news b hb).elim (rel.news b) .inr, fun k x hi hm hx => rel.fix k x hi hm (gr.old k x hi (fun hk => ?_) hx), by rw [put_size]; exact rel.size, by rw [put_defers]; exact rel.defers⟩
    · refine TOK.put (fun n => ?_) (fun d hdd => by rw [rel.size]; exact hd d hdd) (noGd_rv hv)
      show RV w' S' β' (getT (s.t.map fun q => (q.1, killA p.2.2 q.2)) n) _
      rw [getT_map s.t (killA p.2.2) rfl n]
      exact killA_rv (fun y u hy hu => gr.rv hy hu) (rel.tok n)
    · exact (rel.gd.kill _).set _ _ fun d j b want x _ hx => absurd hx noGd_ne
    · have := List.all_eq_true.1 hmv k hk
      rw [isIn_true.2 hi, hm] at this
      cases this
  · rw [T.fail_some] at hn; exact hn.elim
theorem appOwn_sound (ok : EnvOK P E) (inv : Inv E B w S β h) {ty : TypeId} {x y : Operand} {j : Nat} {uy : AV} (hx : RV w S β (.own j) (a.eval x)) (hy : RV w S β uy (a.eval y))
    (ho : o.op = .call ⟨.builtin .append, #[x, y], #[ty, ty]⟩) {p : AV × Heap × List Nat} (hn : (appOwn E (mget h) ty j uy).val = some p) : KOK P E B o a w S β h p.1 p.2.1 p.2.2 := by
  have hT := ok.ty
  unfold appOwn at hn
  split at hn
  · rw [T.fail_some] at hn; exact hn.elim
  · rename_i hjy
    have hjy := elem_false hjy
    split at hn
    · rename_i rs hrs
      split at hn
      · rename_i ti hti
        split at hn
        · rename_i bl hbl
          split at hn
          · rw [T.fail_some] at hn; exact hn.elim
          · rename_i hck
            simp only [Bool.or_eq_false_iff, Bool.not_eq_false'] at hck
            obtain ⟨⟨⟨⟨h4, heb⟩, hty⟩, hsz⟩, hbox⟩ := hck
            have heb := beq_false.1 heb
            have hsz := beq_true.1 hsz
            have h4 := beq_false.1 h4
            have hty := beq_true.1 hty
            simp only [T.ifB_some, T.ret_some, T.fail_some, and_false, or_false, Bool.and_eq_true] at hn
            obtain ⟨⟨hb, hall⟩, rfl⟩ := hn
            have hb : (bl.rows.length + rs.length) * ti.ebytes ≤ 140737488355328 := by simpa [maxRoom] using hb
            have hall : ∀ r ∈ rs, r.length = ti.esize := fun r hr => beq_true.1 (List.all_eq_true.1 hall r hr)
            obtain ⟨i, dd, z, sp⟩ := hT.spec hti
            obtain ⟨ei, ez, rfl, e1, e2, e3, e4, e5, e6, e7⟩ := sp.elem h4
            obtain ⟨A, cap, news, src⟩ := src_ok inv h4 hy hrs hall
            obtain ⟨X, hX, hv1, hv2⟩ := rv_own hx
            obtain ⟨bl', hbl', hr1, hr2⟩ := inv.dom j X hX
            rw [hbl] at hbl'
            cases hbl'
            have hexec : ∀ vv ww, (Builtin.append_ #[ty, ty] o.type #[a.eval x, .slice A rs.length cap]).run P w = .ok vv ww → (execOp a.eval o).run P w = .ok (.value vv) ww := by
              intro vv ww hrun
              simp [execOp, ho, resolve, invoke, builtin, src.val, hrun]
            have ebytes_le : rs.length * ti.ebytes ≤ 140737488355328 := Nat.le_trans (Nat.mul_le_mul_right _ (by omega)) hb
            have fin : ∀ (x' : BI) (w' : World) (vv : Value), (Builtin.append_ #[ty, ty] o.type #[a.eval x, .slice A rs.length cap]).run P w = .ok vv w' → x'.real = true → GrK B [j] w S β w' S (upd β j x') →
                (∀ k y, k ≠ j → β k = some y → y.real = true → w'.heap[y.b]? = w.heap[y.b]?) → ((∃ y, β j = some y ∧ y.real = true ∧ x'.b = y.b) ∨ w.heap.size ≤ x'.b) → x'.b < w'.heap.size →
                BlkOK w' S (upd β j x') ⟨false, ti.elem, ti.esize, bl.rows ++ rs⟩ x' → vv = .slice (some ⟨x'.b, 0, none⟩) x'.len x'.cap →
                KOK P E B o a w S β h (.own j) [(j, ⟨false, ti.elem, ti.esize, bl.rows ++ rs⟩)] [j] := by
              intro x' w' vv hrun hreal gj hold hnew hlt hblk hvv K Q hK
              unfold Oper.wp
              rw [hexec _ _ hrun, Oper.upon_value]
              exact hK _ _ S (upd β j x') (inv_put inv x' _ hreal gj hold hnew hlt hblk) gj ⟨x', upd_self _ _ _, fun _ => hvv, fun hf => by rw [hreal] at hf; cases hf⟩
            by_cases hne : rs = []
            · -- nothing is appended
              subst hne
              have hval : ∃ base n c, a.eval x = .slice base n c ∧ n ≤ c := by
                cases hre : X.real
                · obtain ⟨A', hA'⟩ := hv2 hre; exact ⟨_, _, _, hA', Nat.le_refl _⟩
                · obtain ⟨cs, tyy, c1, c2, c3, c4, c5, _⟩ := hr1 hre; exact ⟨_, _, _, hv1 hre, c4⟩
              obtain ⟨base, n, c, hval, hnc⟩ := hval
              have hrun := run_app_none (P := P) (w := w) ty o.type ti.elem ei sp.und e1 base n c hnc A cap
              rw [← hval] at hrun
              intro K Q hK
              unfold Oper.wp
              rw [hexec _ _ hrun, Oper.upon_value]
              have gj : GrK B [j] w S β w S β := ⟨Blw.refl _ _, fun _ _ => rfl, fun _ h => h, fun _ h => .inl h, fun _ _ _ h => h, fun _ _ _ _ h => h⟩
              refine hK _ _ S β ?_ gj hx
              refine ⟨inv.base, inv.lt, inv.inj, inv.new, fun k x1 h1 => ?_, fun k b1 h1 => ?_, inv.glob⟩
              · by_cases ek : k = j
                · subst ek
                  rw [hX] at h1
                  cases h1
                  refine ⟨⟨false, ti.elem, ti.esize, bl.rows ++ []⟩, by simp only [msets]; rw [mget_mset, if_pos rfl], fun hre => ?_, fun hre => ⟨by simpa using (hr2 hre).1, rfl⟩⟩
                  obtain ⟨cs, tyy, c1, c2, c3, c4, c5, c6, c7, c8⟩ := hr1 hre
                  refine ⟨cs, tyy, c1, c2, by simpa using c3, c4, c5, fun _ => ⟨by rw [(c6 hbox).1, hty], by rw [(c6 hbox).2, hsz]⟩, (fun hh => by cases hh), fun i row hi => ?_⟩
                  simp only [List.append_nil] at hi
                  refine ⟨(c8 i row hi).1, fun q y hq => ?_⟩
                  obtain ⟨u, hu, hru⟩ := (c8 i row hi).2 q y hq
                  rw [hbox] at hru
                  exact ⟨u, hu, by simpa using hru⟩
                · obtain ⟨b1, a1, a2, a3⟩ := inv.dom k x1 h1
                  exact ⟨b1.kill [j], by simp only [msets]; rw [mget_mset, if_neg ek, mget_map, a1]; rfl, fun hr => (a2 hr).kill gj rfl, fun hr => kill_virt (a3 hr)⟩
              · simp only [msets] at h1
                rw [mget_mset] at h1
                by_cases ek : k = j
                · subst ek; exact ⟨X, hX⟩
                · rw [if_neg ek, mget_map] at h1
                  cases hk : mget h k with
                  | none => rw [hk] at h1; cases h1
                  | some b2 => exact inv.cov k b2 hk
            · obtain ⟨ad, rfl, hcells⟩ := src.cells hne
              have hpos := List.length_pos_iff.2 hne
              cases hre : X.real
              · -- it was nil
                obtain ⟨A0, hA0⟩ := hv2 hre
                obtain ⟨hrows, _⟩ := hr2 hre
                obtain ⟨c', cs, r1, r2, r3, r4, r5⟩ := run_app_zero (P := P) (w := w) ty o.type ti.elem ei ez sp.und e1 e4 (by rw [e5, e2]) A0 ad rs.length cap news (by rw [src.len, e2]) hcells hpos src.lt (by rw [e3]; exact ebytes_le)
                rw [← hA0] at r1
                have gj : GrK B [j] w S β (w.drew.alloc (.cells cs ti.elem)) S (upd β j ⟨true, w.heap.size, rs.length, c', ti.esize⟩) :=
                  ⟨((gr_drew B w S β).below).trans ((Blw.refl B w.drew).alloc (show ∀ k, B k → k < w.drew.heap.size from inv.base) _), fun b hb => heap_alloc_old w.drew _ (inv.lt b hb), fun _ h => h, fun _ h => .inl h, fun k x hk hx => by rw [upd_ne β _ (by simpa using hk)]; exact hx, fun k x _ hk hx => by rw [upd_ne β _ (by simpa using hk)] at hx; exact hx⟩
                refine fin ⟨true, w.heap.size, rs.length, c', ti.esize⟩ _ _ r1 rfl gj (fun k y hk hy hr => heap_alloc_old w.drew _ (inv.new k y hy hr).2.1) (.inr (Nat.le_refl _)) (by simp) ?_ rfl
                rw [hrows, List.nil_append]
                refine ⟨cs, ti.elem, heap_alloc_new w.drew _, by simp only [r2, e2], rfl, r3, r4, fun _ => ⟨rfl, rfl⟩, (fun hh => by cases hh), fun i1 row hi1 => ⟨hall row (List.mem_of_getElem? hi1), fun q x1 hq => ?_⟩⟩
                obtain ⟨y1, hy1, hr⟩ := src.rep i1 row q x1 hi1 hq
                have hlt : i1 * ti.esize + q < rs.length * ei.size := by
                  have := (List.getElem?_eq_some_iff.1 hy1).1; rw [src.len] at this; rw [e2]; exact this
                exact ⟨y1, by rw [r5 _ hlt]; exact hy1, by simp only [Bool.false_eq_true, if_false]; exact hr.mono gj.keep fun _ h => h⟩
              · -- it had memory
                obtain ⟨cs, tyy, c1, c2, c3, c4, c5, c6, c7, c8⟩ := hr1 hre
                have hty2 : tyy = ti.elem := by rw [(c6 hbox).1, hty]
                have hxs : X.size = ti.esize := by rw [(c6 hbox).2, hsz]
                subst hty2
                have hev := hv1 hre
                have h63 : bl.rows.length + rs.length ≤ 9223372036854775807 ∨ True := .inr trivial
                have hlen : bl.rows.length = X.len := c3
                have hbytes : (X.len + rs.length) * ei.bytes ≤ 140737488355328 := by rw [e3, ← hlen]; exact hb
                have hsrc : ∀ i1 row q x1, rs[i1]? = some row → row[q]? = some x1 → ∃ y1, news[i1 * ti.esize + q]? = some y1 ∧ R0 w S x1 y1 := fun i1 row q x1 h1 h2 => src.rep i1 row q x1 h1 h2
                have hrowget : ∀ (i1 : Nat) (row : Row), (bl.rows ++ rs)[i1]? = some row → (i1 < bl.rows.length ∧ bl.rows[i1]? = some row) ∨ (bl.rows.length ≤ i1 ∧ rs[i1 - bl.rows.length]? = some row) := by
                  intro i1 row hi1
                  rw [List.getElem?_append] at hi1
                  split at hi1
                  · exact .inl ⟨‹_›, hi1⟩
                  · exact .inr ⟨by omega, hi1⟩
                by_cases hroom : X.len + rs.length ≤ X.cap
                · have hfit : X.len * ei.size + news.length ≤ cs.size := by
                    rw [c2, src.len, hxs, e2, ← Nat.add_mul]; exact Nat.mul_le_mul_right _ hroom
                  have hrun := run_append_room (P := P) w ty o.type ti.elem ei sp.und e1 X.b X.len X.cap cs c1 ad rs.length cap news (by rw [src.len, e2]) hcells src.one hroom hfit
                  rw [← hev] at hrun
                  have hcell : ∀ q, (cs.toList.take (X.len * ei.size) ++ news ++ cs.toList.drop (X.len * ei.size + news.length))[q]? = if q < X.len * ei.size then cs[q]? else if q < X.len * ei.size + news.length then news[q - X.len * ei.size]? else cs[q]? := by
                    intro q
                    rw [splice_get (by simpa using hfit)]
                    simp
                  have hNl : (cs.toList.take (X.len * ei.size) ++ news ++ cs.toList.drop (X.len * ei.size + news.length)).length = cs.size := by
                    simp only [List.length_append, List.length_take, List.length_drop, Array.length_toList]; omega
                  generalize (cs.toList.take (X.len * ei.size) ++ news ++ cs.toList.drop (X.len * ei.size + news.length)) = NN at hrun hcell hNl
                  have g0 := gr_set inv hX hre NN.toArray
                  have gj : GrK B [j] w S β (w.setRow X.b NN.toArray) S (upd β j ⟨true, X.b, X.len + rs.length, X.cap, X.size⟩) := ⟨g0.below, g0.keep, fun _ h => h, fun _ h => .inl h, fun k x hk hx => by rw [upd_ne β _ (by simpa using hk)]; exact hx, fun k x _ hk hx => by rw [upd_ne β _ (by simpa using hk)] at hx; exact hx⟩
                  refine fin ⟨true, X.b, X.len + rs.length, X.cap, X.size⟩ _ _ hrun rfl gj (fun k y hk hy hr => setRow_other w X.b y.b _ (fun eb => hk (inv.inj k j y X hy hX hr hre eb))) (.inl ⟨X, hX, hre, rfl⟩) (by simpa using (inv.new j X hX hre).2.1) ?_ rfl
                  refine ⟨NN.toArray, ti.elem, setRow_heap w X.b cs _ ti.elem _ c1, by simp [hNl, c2], by simp [hlen], hroom, c5, fun _ => ⟨rfl, hxs⟩, (fun hh => by cases hh), fun i1 row hi1 => ?_⟩
                  rcases hrowget i1 row hi1 with ⟨hlt, hi⟩ | ⟨hge, hi⟩
                  · refine ⟨(c8 i1 row hi).1, fun q x1 hq => ?_⟩
                    obtain ⟨u, hu, hru⟩ := (c8 i1 row hi).2 q x1 hq
                    have hql : q < X.size := by rw [← (c8 i1 row hi).1]; exact (List.getElem?_eq_some_iff.1 hq).1
                    have h3 : (i1 + 1) * X.size ≤ X.len * X.size := Nat.mul_le_mul_right _ (by omega)
                    rw [Nat.add_mul] at h3
                    rw [hbox] at hru
                    exact ⟨u, by show NN.toArray[i1 * X.size + q]? = some u; rw [List.getElem?_toArray, hcell, if_pos (by rw [e2, ← hxs]; omega)]; exact hu, by simp only [Bool.false_eq_true, if_false] at hru ⊢; exact hru.mono gj.keep fun _ h => h⟩
                  · refine ⟨by rw [hxs]; exact hall row (List.mem_of_getElem? hi), fun q x1 hq => ?_⟩
                    obtain ⟨u, hu, hru⟩ := hsrc _ row q x1 hi hq
                    have hql : (i1 - bl.rows.length) * ti.esize + q < rs.length * ti.esize := by have := (List.getElem?_eq_some_iff.1 hu).1; rw [src.len] at this; exact this
                    have hi1e : i1 * X.size = X.len * ei.size + (i1 - bl.rows.length) * ti.esize := by rw [hxs, e2, ← Nat.add_mul]; congr 1; omega
                    refine ⟨u, ?_, by simp only [Bool.false_eq_true, if_false]; exact hru.mono gj.keep fun _ h => h⟩
                    show NN.toArray[i1 * X.size + q]? = some u
                    rw [List.getElem?_toArray, hcell, hi1e, if_neg (by omega), if_pos (by rw [src.len]; omega), ← hu]
                    congr 1
                    omega
                · have holds : ∀ q x1, (cs.toList.take (X.len * ei.size))[q]? = some x1 → w.cell? ((⟨X.b, 0, none⟩ : Addr).add q) = some x1 := by
                    intro q x1 hq
                    rw [List.getElem?_take] at hq
                    split at hq
                    · rw [add_lit]; simp only [World.cell?, c1]; simpa using hq
                    · cases hq
                  have hol : (cs.toList.take (X.len * ei.size)).length = X.len * ei.size := by
                    simp only [List.length_take, Array.length_toList, c2, hxs, e2]
                    have := Nat.mul_le_mul_right ti.esize c4
                    omega
                  have hneed : X.len + rs.length ≤ 9223372036854775807 := by
                    have := Nat.le_mul_of_pos_right (X.len + rs.length) (Nat.pos_of_ne_zero (show ei.bytes ≠ 0 by rw [e3]; exact heb)); omega
                  have hrun := run_append_grow (P := P) w ty o.type ti.elem ei ez sp.und e1 e4 ⟨X.b, 0, none⟩ X.len X.cap _ hol holds ad rs.length cap news (by rw [src.len, e2]) hcells (by omega) (by omega) (growslice_fits (by omega) hbytes)
                  rw [← hev] at hrun
                  have hge := grownCap_ge w (X.len + rs.length) X.cap ti.elem
                  have hcm : grownCap w (X.len + rs.length) X.cap ti.elem ≤ 9223372036854775807 := grownCap_le_maxLen w _ X.cap ti.elem hneed
                  generalize grownCap w (X.len + rs.length) X.cap ti.elem = C at hrun hge hcm
                  have hcs : ((cs.toList.take (X.len * ei.size)).toArray ++ news.toArray ++ Builtin.zeroCells ez.cells (C - (X.len + rs.length))).size = C * ti.esize := by
                    simp only [Array.size_append, List.size_toArray, size_zeroCells, hol, src.len, e5]
                    rw [e2, ← Nat.add_mul, ← Nat.add_mul]
                    congr 1; omega
                  have hcell : ∀ q, ((cs.toList.take (X.len * ei.size)).toArray ++ news.toArray ++ Builtin.zeroCells ez.cells (C - (X.len + rs.length)))[q]? = if q < X.len * ei.size then cs[q]? else if q < X.len * ei.size + news.length then news[q - X.len * ei.size]? else ((cs.toList.take (X.len * ei.size)).toArray ++ news.toArray ++ Builtin.zeroCells ez.cells (C - (X.len + rs.length)))[q]? := by
                    intro q
                    split
                    · rw [Array.append_assoc, Array.getElem?_append_left (by rw [List.size_toArray, hol]; assumption), List.getElem?_toArray, List.getElem?_take, if_pos ‹_›]
                      simp
                    · split
                      · rw [Array.getElem?_append_left (by simp only [Array.size_append, List.size_toArray, hol]; assumption), Array.getElem?_append_right (by rw [List.size_toArray, hol]; omega)]
                        simp [hol]
                      · rfl
                  generalize ((cs.toList.take (X.len * ei.size)).toArray ++ news.toArray ++ Builtin.zeroCells ez.cells (C - (X.len + rs.length))) = NN at hrun hcell hcs
                  have gj : GrK B [j] w S β (w.drew.alloc (.cells NN ti.elem)) S (upd β j ⟨true, w.heap.size, X.len + rs.length, C, ti.esize⟩) :=
                    ⟨((gr_drew B w S β).below).trans ((Blw.refl B w.drew).alloc (show ∀ k, B k → k < w.drew.heap.size from inv.base) _), fun b hb => heap_alloc_old w.drew _ (inv.lt b hb), fun _ h => h, fun _ h => .inl h, fun k x hk hx => by rw [upd_ne β _ (by simpa using hk)]; exact hx, fun k x _ hk hx => by rw [upd_ne β _ (by simpa using hk)] at hx; exact hx⟩
                  refine fin ⟨true, w.heap.size, X.len + rs.length, C, ti.esize⟩ _ _ hrun rfl gj (fun k y hk hy hr => heap_alloc_old w.drew _ (inv.new k y hy hr).2.1) (.inr (Nat.le_refl _)) (by simp) ?_ rfl
                  refine ⟨NN, ti.elem, heap_alloc_new w.drew _, hcs, by simp [hlen], hge, hcm, fun _ => ⟨rfl, rfl⟩, (fun hh => by cases hh), fun i1 row hi1 => ?_⟩
                  rcases hrowget i1 row hi1 with ⟨hlt, hi⟩ | ⟨hge', hi⟩
                  · refine ⟨by rw [(c8 i1 row hi).1, hxs], fun q x1 hq => ?_⟩
                    obtain ⟨u, hu, hru⟩ := (c8 i1 row hi).2 q x1 hq
                    have hql : q < X.size := by rw [← (c8 i1 row hi).1]; exact (List.getElem?_eq_some_iff.1 hq).1
                    have h3 : (i1 + 1) * X.size ≤ X.len * X.size := Nat.mul_le_mul_right _ (by omega)
                    rw [Nat.add_mul] at h3
                    rw [hbox] at hru
                    refine ⟨u, ?_, by simp only [Bool.false_eq_true, if_false] at hru ⊢; exact hru.mono gj.keep fun _ h => h⟩
                    show NN[i1 * ti.esize + q]? = some u
                    rw [← hxs, hcell, if_pos (by rw [e2, ← hxs]; omega)]; exact hu
                  · refine ⟨hall row (List.mem_of_getElem? hi), fun q x1 hq => ?_⟩
                    obtain ⟨u, hu, hru⟩ := hsrc _ row q x1 hi hq
                    have hql : (i1 - bl.rows.length) * ti.esize + q < rs.length * ti.esize := by have := (List.getElem?_eq_some_iff.1 hu).1; rw [src.len] at this; exact this
                    have hi1e : i1 * ti.esize = X.len * ei.size + (i1 - bl.rows.length) * ti.esize := by rw [e2, ← Nat.add_mul]; congr 1; omega
                    refine ⟨u, ?_, by simp only [Bool.false_eq_true, if_false]; exact hru.mono gj.keep fun _ h => h⟩
                    show NN[i1 * ti.esize + q]? = some u
                    rw [hcell, hi1e, if_neg (by omega), if_pos (by rw [src.len]; omega), ← hu]
                    congr 1
                    omega
        · rw [T.fail_some] at hn; exact hn.elim
      · rw [T.fail_some] at hn; exact hn.elim
    · rw [T.fail_some] at hn; exact hn.elim
end

end

section

variable {P : Program} {E : Env}
section
variable {B : Nat → Prop} {o : Oper} {a : Act} {w w' : World} {S S' : Nat → Prop} {β β' : Nat → Option BI} {h : Heap} {av : AV} {v : Value} {hg : Nat → Option Blk}
theorem mem_addK : ∀ {l acc : List Nat} {k : Nat}, k ∈ addK acc l ↔ k ∈ acc ∨ k ∈ l
  | [], acc, k => by simp [addK]
  | j :: l, acc, k => by
    simp only [addK]
    split
    · rename_i hj
      rw [mem_addK (l := l)]
      have := elem_true hj
      simp only [List.mem_cons]
      constructor
      · rintro (h | h)
        · exact .inl h
        · exact .inr (.inr h)
      · rintro (h | h | h)
        · exact .inl h
        · subst h; exact .inl this
        · exact .inr h
    · rw [mem_addK (l := l)]
      simp only [List.mem_append, List.mem_cons, List.mem_nil_iff, or_false]
      constructor
      · rintro ((h | h) | h)
        · exact .inl h
        · exact .inr (.inl h)
        · exact .inr (.inr h)
      · rintro (h | h | h)
        · exact .inl (.inl h)
        · exact .inl (.inr h)
        · exact .inr h
theorem mem_reach : ∀ (n : Nat) {ks : List Nat} {k : Nat}, k ∈ ks → k ∈ reach hg n ks
  | 0, ks, k, h => h
  | n + 1, ks, k, h => mem_reach n (mem_addK.2 (.inl h))
theorem reach_congr {hg' : Nat → Option Blk} : ∀ (n : Nat) {ks : List Nat}, (∀ k ∈ reach hg n ks, hg' k = hg k) → reach hg' n ks = reach hg n ks
  | 0, ks, _ => rfl
  | n + 1, ks, hh => by
    have e : ks.flatMap (refsH hg') = ks.flatMap (refsH hg) := by
      rw [List.flatMap_def, List.flatMap_def]
      congr 1
      refine List.map_congr_left fun k hk => ?_
      unfold refsH
      rw [hh k (mem_reach (n + 1) hk)]
    show reach hg' n (addK ks (ks.flatMap (refsH hg'))) = reach hg n (addK ks (ks.flatMap (refsH hg)))
    rw [e]
    exact reach_congr n hh
theorem reach_congr' {hg' : Nat → Option Blk} : ∀ (n : Nat) {ks : List Nat}, (∀ k ∈ reach hg n ks, hg' k = hg k) → reach hg' (n + 1) ks = reach hg (n + 1) ks
  | 0, ks, hh => by
    have e : ks.flatMap (refsH hg') = ks.flatMap (refsH hg) := by
      rw [List.flatMap_def, List.flatMap_def]
      congr 1
      refine List.map_congr_left fun k hk => ?_
      unfold refsH
      rw [hh k hk]
    show addK ks (ks.flatMap (refsH hg')) = addK ks (ks.flatMap (refsH hg))
    rw [e]
  | n + 1, ks, hh => by
    have e : ks.flatMap (refsH hg') = ks.flatMap (refsH hg) := by
      rw [List.flatMap_def, List.flatMap_def]
      congr 1
      refine List.map_congr_left fun k hk => ?_
      unfold refsH
      rw [hh k (mem_reach (n + 1) hk)]
    show reach hg' (n + 1) (addK ks (ks.flatMap (refsH hg'))) = reach hg (n + 1) (addK ks (ks.flatMap (refsH hg)))
    rw [e]
    exact reach_congr' n hh
theorem mem_reach_succ : ∀ (n : Nat) {ks : List Nat} {k j : Nat} {b : Blk}, k ∈ reach hg n ks → hg k = some b → j ∈ blkRefs b → j ∈ reach hg (n + 1) ks
  | 0, ks, k, j, b, hk, hb, hj => by
    show j ∈ addK ks (ks.flatMap (refsH hg))
    exact mem_addK.2 (.inr (List.mem_flatMap.2 ⟨k, hk, by unfold refsH; rw [hb]; exact hj⟩))
  | n + 1, ks, k, j, b, hk, hb, hj => mem_reach_succ n hk hb hj
theorem closedK_spec {ks : List Nat} (hc : closedK hg ks = true) : ∀ k ∈ ks, ∃ b, hg k = some b ∧ ∀ j ∈ blkRefs b, j ∈ ks := by
  intro k hk
  have := List.all_eq_true.1 hc k hk
  cases hb : hg k with
  | none => rw [hb] at this; cases this
  | some b =>
    rw [hb] at this
    exact ⟨b, rfl, fun j hj => elem_true (List.all_eq_true.1 this j hj)⟩
theorem refsC_sub {x : AV} {k : Nat} (hk : k ∈ refsC x) : k ∈ refs2 x := by
  cases x <;> first | exact hk | (simp [refsC, refs0] at hk)
theorem BlkOK.ren {f : Nat → Nat} {bl : Blk} {x : BI} (hβ : ∀ k ∈ blkRefs bl, ∀ y, β k = some y → β' (f k) = some y) (hk : BlkOK w S β bl x) : BlkOK w S β' (bl.ren f) x := by
  obtain ⟨cs, ty, c1, c2, c3, c4, c5, c6, c7, c8⟩ := hk
  unfold Blk.ren
  split
  · rename_i hbx
    refine ⟨cs, ty, c1, c2, by simpa using c3, c4, c5, c6, c7, fun i row hi => ?_⟩
    simp only [List.getElem?_map, Option.map_eq_some_iff] at hi
    obtain ⟨row0, hi0, rfl⟩ := hi
    obtain ⟨c9, c10⟩ := c8 i row0 hi0
    refine ⟨by simpa using c9, fun q y0 hq => ?_⟩
    simp only [List.getElem?_map, Option.map_eq_some_iff] at hq
    obtain ⟨y1, hq1, rfl⟩ := hq
    obtain ⟨v1, hv1, hr1⟩ := c10 q y1 hq1
    rw [hbx] at hr1
    refine ⟨v1, hv1, ?_⟩
    rw [hbx]
    simp only [if_true] at hr1 ⊢
    refine renC_rc (fun k hk => hβ k ?_) hr1
    unfold blkRefs
    rw [hbx]
    simp only [List.mem_flatMap]
    exact ⟨row0, List.mem_of_getElem? hi0, y1, List.mem_of_getElem? hq1, refsC_sub hk⟩
  · rename_i hbx
    refine ⟨cs, ty, c1, c2, c3, c4, c5, c6, c7, fun i row hi => ?_⟩
    obtain ⟨c9, c10⟩ := c8 i row hi
    refine ⟨c9, fun q y0 hq => ?_⟩
    obtain ⟨v1, hv1, hr1⟩ := c10 q y0 hq
    rw [hbx] at hr1
    exact ⟨v1, hv1, by rw [hbx]; simpa using hr1⟩
theorem ren_virt {f : Nat → Nat} {bl : Blk} (hv : bl.rows = [] ∧ bl.box = false) : (bl.ren f).rows = [] ∧ (bl.ren f).box = false := by
  unfold Blk.ren
  rw [hv.2]
  exact hv
theorem inHeap_of {ks : List Nat} : ∀ {l : List Nat} {acc : Heap} {k' : Nat} {bl : Blk}, mget (inHeap hg ks l acc) k' = some bl → (∃ k ∈ l, k' = inKey ks k ∧ ∃ b, hg k = some b ∧ bl = b.ren (inKey ks)) ∨ mget acc k' = some bl
  | [], acc, k', bl, hh => .inr hh
  | k :: l, acc, k', bl, hh => by
    simp only [inHeap] at hh
    split at hh
    · rename_i b hb
      rcases inHeap_of (l := l) hh with ⟨k1, h1, h2⟩ | h1
      · exact .inl ⟨k1, by simp [h1], h2⟩
      · simp only [mget] at h1
        split at h1
        · rename_i he
          cases h1
          exact .inl ⟨k, by simp, beq_true.1 he, b, hb, rfl⟩
        · exact .inr h1
    · rcases inHeap_of (l := l) hh with ⟨k1, h1, h2⟩ | h1
      · exact .inl ⟨k1, by simp [h1], h2⟩
      · exact .inr h1
theorem inHeap_acc {ks : List Nat} : ∀ {l : List Nat} {acc : Heap} {k' : Nat}, mget acc k' ≠ none → mget (inHeap hg ks l acc) k' ≠ none
  | [], acc, k', hh => hh
  | k :: l, acc, k', hh => by
    simp only [inHeap]
    split
    · refine inHeap_acc (l := l) ?_
      simp only [mget]
      split
      · simp
      · exact hh
    · exact inHeap_acc (l := l) hh
theorem inHeap_some {ks : List Nat} : ∀ {l : List Nat} {acc : Heap} {k : Nat}, k ∈ l → hg k ≠ none → mget (inHeap hg ks l acc) (inKey ks k) ≠ none
  | j :: l, acc, k, hk, hb => by
    simp only [inHeap]
    by_cases e : k = j
    · subst e
      cases hj : hg k with
      | none => exact absurd hj hb
      | some b =>
        refine inHeap_acc ?_
        simp [mget]
    · have hl : k ∈ l := by rcases List.mem_cons.1 hk with h | h; exact absurd h e; exact h
      split
      · exact inHeap_some hl hb
      · exact inHeap_some hl hb
theorem mget_mapK {f : Nat → Nat} {g : Blk → Blk} : ∀ {m : Heap} {k : Nat}, (∀ p ∈ m, f p.1 = f k → p.1 = k) → mget (m.map fun q => (f q.1, g q.2)) (f k) = (mget m k).map g
  | [], k, _ => rfl
  | (j, b) :: m, k, hi => by
    simp only [List.map_cons, mget]
    by_cases e : k = j
    · subst e
      rw [beq_true.2 rfl, beq_true.2 rfl]; rfl
    · rw [beq_false.2 e, beq_false.2 (fun e2 => e (hi (j, b) (by simp) e2.symm).symm)]
      exact mget_mapK fun p hp => hi p (by simp [hp])
theorem keysNodup_of : ∀ {m : Heap}, (m.map (·.1)).Nodup → keysNodup m = true
  | [], _ => rfl
  | p :: m, h => by
    simp only [List.map_cons, List.nodup_cons] at h
    simp only [keysNodup]
    have : (m.map (·.1)).elem p.1 = false := by rw [← Bool.not_eq_true]; exact fun hh => h.1 (elem_true hh)
    rw [this]
    exact keysNodup_of h.2
theorem mget_ne {m : Heap} {k : Nat} (hk : k ∈ m.map (·.1)) : ∃ b, mget m k = some b := by
  induction m with
  | nil => simp at hk
  | cons p m ih =>
    obtain ⟨j, b⟩ := p
    simp only [mget]
    split
    · exact ⟨b, rfl⟩
    · rename_i hne
      simp only [List.map_cons, List.mem_cons] at hk
      rcases hk with h | h
      · exact absurd h (beq_false.1 hne)
      · exact ih h
def keysIn (β : Nat → Option BI) (ks : List Nat) : Nat → Option BI := fun k => if 900 ≤ k then (ks[k - 900]?).bind β else none
theorem keysIn_some {ks : List Nat} {k' : Nat} {x : BI} (hh : keysIn β ks k' = some x) : ∃ k, ks[k' - 900]? = some k ∧ 900 ≤ k' ∧ β k = some x := by
  unfold keysIn at hh
  split at hh
  · rename_i hge
    rw [Option.bind_eq_some_iff] at hh
    obtain ⟨k, h1, h2⟩ := hh
    exact ⟨k, h1, hge, h2⟩
  · cases hh
theorem keysIn_at {ks : List Nat} {k : Nat} (hk : k ∈ ks) : keysIn β ks (inKey ks k) = β k := by
  unfold keysIn inKey
  rw [if_pos (by omega), show 900 + posIn ks k - 900 = posIn ks k by omega, posIn_get hk]
  rfl
theorem inKey_at {ks : List Nat} {i k : Nat} (hn : ks.Nodup) (hi : ks[i]? = some k) : inKey ks k = 900 + i := by
  have hk := List.mem_of_getElem? hi
  obtain ⟨l1, e1⟩ := List.getElem?_eq_some_iff.1 (posIn_get hk)
  obtain ⟨l2, e2⟩ := List.getElem?_eq_some_iff.1 hi
  unfold inKey
  rw [nodup_inj hn l1 l2 (by rw [e1, e2])]
theorem inKey_inj {ks : List Nat} {k k' : Nat} (hk : k ∈ ks) (hk' : k' ∈ ks) (e : inKey ks k = inKey ks k') : k = k' := by
  have h1 := posIn_get hk
  have h2 := posIn_get hk'
  unfold inKey at e
  rw [show posIn ks k = posIn ks k' by omega, h2] at h1
  cases h1; rfl
theorem inKey_lt {ks : List Nat} {k : Nat} (hk : k ∈ ks) : inKey ks k < 900 + ks.length := by
  obtain ⟨l1, _⟩ := List.getElem?_eq_some_iff.1 (posIn_get hk)
  unfold inKey; omega
theorem inv_in (inv : Inv E B w S β h) {ks : List Nat} (hcl : closedK (mget h) ks = true) (hnd : ks.Nodup) : InvG E.glob (ownFree w (keysIn β ks)) w S (keysIn β ks) (inHeap (mget h) ks ks []) := by
  have hcl := closedK_spec hcl
  refine ⟨fun b hb => hb.1, inv.lt, fun k k' x x' h1 h2 r1 r2 e => ?_, fun k x h1 r1 => ?_, fun k x h1 => ?_, fun k bl h1 => ?_, inv.glob⟩
  · obtain ⟨j, j1, j2, j3⟩ := keysIn_some h1
    obtain ⟨j', j1', j2', j3'⟩ := keysIn_some h2
    have := inv.inj j j' x x' j3 j3' r1 r2 e
    subst this
    obtain ⟨l1, e1⟩ := List.getElem?_eq_some_iff.1 j1
    obtain ⟨l2, e2⟩ := List.getElem?_eq_some_iff.1 j1'
    have := nodup_inj hnd l1 l2 (by rw [e1, e2])
    omega
  · obtain ⟨j, j1, j2, j3⟩ := keysIn_some h1
    obtain ⟨n1, n2, n3⟩ := inv.new j x j3 r1
    exact ⟨fun hh => hh.2 ⟨k, x, h1, r1, rfl⟩, n2, n3⟩
  · obtain ⟨j, j1, j2, j3⟩ := keysIn_some h1
    have hj := List.mem_of_getElem? j1
    obtain ⟨bl, b1, b2, b3⟩ := inv.dom j x j3
    obtain ⟨bl', c1, c2⟩ := hcl j hj
    rw [b1] at c1
    cases c1
    have hkey : inKey ks j = k := by rw [inKey_at hnd j1]; omega
    have : mget (inHeap (mget h) ks ks []) k = some (bl.ren (inKey ks)) := by
      cases hm : mget (inHeap (mget h) ks ks []) k with
      | none => rw [← hkey] at hm; exact absurd hm (inHeap_some hj (by rw [b1]; simp))
      | some b =>
        rcases inHeap_of hm with ⟨j', q1, q2, b', q3, rfl⟩ | hh
        · have := inKey_inj hj q1 (by rw [hkey, q2])
          subst this
          rw [b1] at q3
          cases q3; rfl
        · cases hh
    refine ⟨_, this, fun hr => ?_, fun hr => ren_virt (b3 hr)⟩
    refine (b2 hr).ren fun q hq y hy => ?_
    rw [keysIn_at (c2 q hq)]
    exact hy
  · rcases inHeap_of h1 with ⟨j, q1, q2, b, q3, rfl⟩ | hh
    · obtain ⟨x, hx⟩ := inv.cov j b q3
      exact ⟨x, by rw [q2, keysIn_at q1]; exact hx⟩
    · cases hh
theorem outKey_in {ks : List Nat} {d k : Nat} (hk : k ∈ ks) : outKey ks d (inKey ks k) = k := by
  unfold outKey inKey
  have : Nat.ble 900 (900 + posIn ks k) = true := by simp
  rw [this]
  simp only [List.getD_eq_getElem?_getD]
  rw [show 900 + posIn ks k - 900 = posIn ks k by omega, posIn_get hk]
  rfl
theorem nodup_mapK {f : Nat → Nat} : ∀ {l : List Nat}, l.Nodup → (∀ x ∈ l, ∀ y ∈ l, f x = f y → x = y) → (l.map f).Nodup
  | [], _, _ => List.nodup_nil
  | x :: l, hn, hi => by
    obtain ⟨h1, h2⟩ := List.nodup_cons.1 hn
    refine List.nodup_cons.2 ⟨fun hh => ?_, nodup_mapK h2 fun y hy z hz => hi y (by simp [hy]) z (by simp [hz])⟩
    obtain ⟨y, hy, e⟩ := List.mem_map.1 hh
    have := hi y (by simp [hy]) x (by simp) e
    subst this
    exact h1 hy
theorem inv_back (inv : Inv E B w S β h) {ks : List Nat} (hcl : closedK (mget h) ks = true) (hnd : ks.Nodup) (hlen : ks.length ≤ 99) {d : Nat} {nw : Bool} {H : Heap} {mv : List Nat} (hok : outFits E (mget h) ks d nw H mv = true)
    (hbl : Blw (ownFree w (keysIn β ks)) w w') (hsub : ∀ b, S b → S' b) (hnews : ∀ b, S' b → S b ∨ ¬ ownFree w (keysIn β ks) b) (inv' : InvG E.glob (ownFree w (keysIn β ks)) w' S' β' H)
    (hst : ∀ k x, inK k → k ∉ mv → β' k = some x → keysIn β ks k = some x) :
    ∃ β2, Inv E B w' S' β2 (msets (h.map fun p => (p.1, p.2.kill (mv.map (outKey ks d)))) (H.map fun q => (outKey ks d q.1, q.2.ren (outKey ks d)))) ∧ GrK B (mv.map (outKey ks d)) w S β w' S' β2 ∧ ∀ k x, β' k = some x → β2 (outKey ks d k) = some x := by
  have hcl := closedK_spec hcl
  unfold outFits at hok
  simp only [Bool.and_eq_true] at hok
  obtain ⟨⟨⟨⟨o1, o2⟩, o3⟩, o4⟩, o5⟩ := hok
  have o1 := nodupB_spec o1
  have o2 : ∀ q ∈ H, (900 ≤ q.1 ∧ ∃ k, ks[q.1 - 900]? = some k) ∨ (q.1 < 4 ∧ nw = true ∧ mget h (renK d q.1) = none) := by
    intro q hq
    have := List.all_eq_true.1 o2 q hq
    split at this
    · rename_i hge
      have hlt : q.1 - 900 < ks.length := by simpa using this
      exact .inl ⟨by simpa using hge, _, List.getElem?_eq_getElem hlt⟩
    · simp only [Bool.and_eq_true] at this
      refine .inr ⟨by simpa using this.1.2, this.1.1, ?_⟩
      have h2 := this.2
      split at h2
      · assumption
      · cases h2
  have o3 : ∀ k ∈ ks, inKey ks k ∈ H.map (·.1) := fun k hk => elem_true (List.all_eq_true.1 o3 k hk)
  have o4 : ∀ k ∈ mv, 900 ≤ k ∧ ∃ j, ks[k - 900]? = some j := fun k hk => by
    have := List.all_eq_true.1 o4 k hk
    simp only [Bool.and_eq_true] at this
    have hlt : k - 900 < ks.length := by simpa using this.2
    exact ⟨by simpa using this.1, _, List.getElem?_eq_getElem hlt⟩
  have hkey : ∀ k' b, mget H k' = some b → (∃ k ∈ ks, k' = inKey ks k ∧ outKey ks d k' = k) ∨ (k' < 4 ∧ nw = true ∧ outKey ks d k' = renK d k' ∧ mget h (renK d k') = none) := by
    intro k' b hb
    rcases o2 (k', b) (mget_mem hb) with ⟨h1, k, h2⟩ | ⟨h1, h2, h3⟩
    · simp only at h1 h2
      have hk := List.mem_of_getElem? h2
      have e : inKey ks k = k' := by rw [inKey_at hnd h2]; omega
      exact .inl ⟨k, hk, e.symm, by rw [← e, outKey_in hk]⟩
    · simp only at h1 h3
      refine .inr ⟨h1, h2, ?_, h3⟩
      unfold outKey
      have : Nat.ble 900 k' = false := by rw [← Bool.not_eq_true]; simp; omega
      rw [this]
  have hksome : ∀ k ∈ ks, mget h k ≠ none := fun k hk => by obtain ⟨b, hb, _⟩ := hcl k hk; rw [hb]; simp
  have hren : ∀ k', k' < 4 → mget h (renK d k') = none → renK d k' ∉ ks := fun k' _ hn hh => hksome _ hh hn
  let β2 : Nat → Option BI := fun k => if k ∈ ks then β' (inKey ks k) else match β k with
    | some x => some x
    | none => if renK d 0 ≤ k ∧ k < renK d 4 then β' (k - renK d 0) else none
  have bi : ∀ k' x, β' k' = some x → β2 (outKey ks d k') = some x := by
    intro k' x hx
    obtain ⟨b, hb, _⟩ := inv'.dom k' x hx
    rcases hkey k' b hb with ⟨k, hk, e1, e2⟩ | ⟨h1, _, h3, h4⟩
    · simp only [β2]; rw [e2, if_pos hk, ← e1]; exact hx
    · simp only [β2]
      rw [h3, if_neg (hren k' h1 h4), inv.fresh h4]
      simp only []
      rw [if_pos (by simp only [renK]; omega), show renK d k' - renK d 0 = k' by simp only [renK]; omega]
      exact hx
  have bc : ∀ k x, β2 k = some x → (k ∈ ks ∧ β' (inKey ks k) = some x) ∨ (k ∉ ks ∧ β k = some x) ∨ (∃ j, j < 4 ∧ k = renK d j ∧ β' j = some x ∧ outKey ks d j = k ∧ mget h k = none) := by
    intro k x hx
    simp only [β2] at hx
    split at hx
    · exact .inl ⟨‹_›, hx⟩
    · rename_i hk
      split at hx
      · rename_i y hy; cases hx; exact .inr (.inl ⟨hk, hy⟩)
      · split at hx
        · rename_i hge
          obtain ⟨b, hb, _⟩ := inv'.dom _ x hx
          rcases hkey _ b hb with ⟨k2, hk2, e1, e2⟩ | ⟨h1, h2, h3, h4⟩
          · exfalso
            have hge2 : 900 ≤ inKey ks k2 := by unfold inKey; omega
            simp only [renK] at hge e1; omega
          · have e : renK d (k - renK d 0) = k := by simp only [renK] at hge ⊢; omega
            refine .inr (.inr ⟨k - renK d 0, h1, e.symm, hx, by rw [h3, e], by rw [← e]; exact h4⟩)
        · cases hx
  have hofB : ∀ b, B b → ownFree w (keysIn β ks) b := fun b hb => ⟨inv.base b hb, by
    rintro ⟨k, x, h1, h2, rfl⟩
    obtain ⟨j, _, _, j3⟩ := keysIn_some h1
    exact (inv.new j x j3 h2).1 hb⟩
  have hofS : ∀ b, S b → ownFree w (keysIn β ks) b := fun b hb => ⟨inv.lt b hb, by
    rintro ⟨k, x, h1, h2, rfl⟩
    obtain ⟨j, _, _, j3⟩ := keysIn_some h1
    exact (inv.new j x j3 h2).2.2 hb⟩
  have hofO : ∀ k x, k ∉ ks → β k = some x → x.real = true → ownFree w (keysIn β ks) x.b := fun k x hk hx hr => ⟨(inv.new k x hx hr).2.1, by
    rintro ⟨k', x', h1, h2, e⟩
    obtain ⟨j, j1, _, j3⟩ := keysIn_some h1
    have := inv.inj j k x' x j3 hx h2 hr e
    subst this
    exact hk (List.mem_of_getElem? j1)⟩
  have hsz := hbl.size
  have hgr : GrK B (mv.map (outKey ks d)) w S β w' S' β2 := by
    refine ⟨hbl.mono hofB, fun b hb => hbl.block b (hofS b hb), hsub, fun b hb => (hnews b hb).imp id fun h hB => h (hofB b hB), fun k x hk hx => ?_, fun k x hi hk hx => ?_⟩
    · by_cases hks : k ∈ ks
      · simp only [β2]
        rw [if_pos hks]
        obtain ⟨b, hb⟩ := mget_ne (o3 k hks)
        obtain ⟨x', hx'⟩ := inv'.cov _ b hb
        have hin : inK (inKey ks k) := ⟨by unfold inKey; omega, by have := inKey_lt hks; omega⟩
        have := hst _ x' hin (fun hm => hk (List.mem_map.2 ⟨_, hm, outKey_in hks⟩)) hx'
        rw [keysIn_at hks, hx] at this
        cases this
        exact hx'
      · simp only [β2]
        rw [if_neg hks, hx]
    · rcases bc k x hx with ⟨h1, h2⟩ | ⟨h1, h2⟩ | ⟨j, h1, rfl, _⟩
      · have hin : inK (inKey ks k) := ⟨by unfold inKey; omega, by have := inKey_lt h1; omega⟩
        have := hst _ x hin (fun hm => hk (List.mem_map.2 ⟨_, hm, outKey_in h1⟩)) h2
        rw [keysIn_at h1] at this
        exact this
      · exact h2
      · have := hi.2; simp only [renK] at this; omega
  have hinj : ∀ p ∈ H, ∀ k, k ∈ H.map (·.1) → outKey ks d p.1 = outKey ks d k → p.1 = k := by
    intro p hp k hk e
    obtain ⟨b2, hb2⟩ := mget_ne hk
    obtain ⟨b1, hb1⟩ := mget_ne (m := H) (k := p.1) (List.mem_map_of_mem hp)
    rcases hkey _ b1 hb1 with ⟨k1, q1, q2, q3⟩ | ⟨q1, _, q3, q4⟩ <;> rcases hkey _ b2 hb2 with ⟨k2, r1, r2, r3⟩ | ⟨r1, _, r3, r4⟩
    · rw [q3, r3] at e; rw [q2, r2, e]
    · rw [q3, r3] at e; rw [e] at q1; exact absurd q1 (hren _ r1 r4)
    · rw [q3, r3] at e; rw [← e] at r1; exact absurd r1 (hren _ q1 q4)
    · rw [q3, r3] at e; simp only [renK] at e; omega
  have hnd2 : keysNodup (H.map fun q => (outKey ks d q.1, q.2.ren (outKey ks d))) = true := by
    refine keysNodup_of ?_
    rw [List.map_map]
    have : ((fun (x : Nat × Blk) => x.1) ∘ fun q : Nat × Blk => (outKey ks d q.1, q.2.ren (outKey ks d))) = (outKey ks d) ∘ fun (x : Nat × Blk) => x.1 := rfl
    rw [this, ← List.map_map]
    refine nodup_mapK o1 fun x hx y hy e => ?_
    obtain ⟨p, hp, rfl⟩ := List.mem_map.1 hx
    exact hinj p hp y hy e
  have hmg : ∀ k, mget (msets (h.map fun p => (p.1, p.2.kill (mv.map (outKey ks d)))) (H.map fun q => (outKey ks d q.1, q.2.ren (outKey ks d)))) k = (mget (H.map fun q => (outKey ks d q.1, q.2.ren (outKey ks d))) k).or ((mget h k).map (Blk.kill (mv.map (outKey ks d)))) := by
    intro k
    rw [mget_msets, mget_reverse hnd2, mget_map]
  have hat : ∀ k' b, mget H k' = some b → mget (H.map fun q => (outKey ks d q.1, q.2.ren (outKey ks d))) (outKey ks d k') = some (b.ren (outKey ks d)) := by
    intro k' b hb
    rw [mget_mapK fun p hp e => hinj p hp k' (List.mem_map.2 ⟨(k', b), mget_mem hb, rfl⟩) e, hb]
    rfl
  refine ⟨β2, ⟨fun b hb => by have := inv.base b hb; omega, inv'.lt, fun k k' x x' h1 h2 r1 r2 e => ?_, fun k x h1 r1 => ?_, fun k x h1 => ?_, fun k bl h1 => ?_, fun gl row hg => (inv.glob gl row hg).mono hgr.keep hgr.sub⟩, hgr, bi⟩
  · -- one key a block
    have far : ∀ c x k' x', β' c = some x → x.real = true → k' ∉ ks → β k' = some x' → x'.real = true → x.b ≠ x'.b := by
      intro c x k' x' hc hr hk' hx' hr' e
      have := (inv'.new c x hc hr).1
      rw [e] at this
      exact this (hofO k' x' hk' hx' hr')
    rcases bc k x h1 with ⟨p1, p2⟩ | ⟨p1, p2⟩ | ⟨j, p1, rfl, p2, p3, _⟩ <;> rcases bc k' x' h2 with ⟨q1, q2⟩ | ⟨q1, q2⟩ | ⟨j', q1, rfl, q2, q3, _⟩
    · exact inKey_inj p1 q1 (inv'.inj _ _ x x' p2 q2 r1 r2 e)
    · exact absurd e (far _ x k' x' p2 r1 q1 q2 r2)
    · have := inv'.inj _ _ x x' p2 q2 r1 r2 e
      have hge : 900 ≤ inKey ks k := by unfold inKey; omega
      omega
    · exact absurd e.symm (far _ x' k x q2 r2 p1 p2 r1)
    · exact inv.inj k k' x x' p2 q2 r1 r2 e
    · exact absurd e.symm (far _ x' k x q2 r2 p1 p2 r1)
    · have := inv'.inj _ _ x x' p2 q2 r1 r2 e
      have hge : 900 ≤ inKey ks k' := by unfold inKey; omega
      omega
    · exact absurd e (far _ x k' x' p2 r1 q1 q2 r2)
    · rw [inv'.inj _ _ x x' p2 q2 r1 r2 e]
  · have viaH : ∀ c, β' c = some x → ¬ B x.b ∧ x.b < w'.heap.size ∧ ¬ S' x.b := by
      intro c hc
      obtain ⟨n1, n2, n3⟩ := inv'.new c x hc r1
      exact ⟨fun hB => n1 (hofB _ hB), n2, n3⟩
    rcases bc k x h1 with ⟨p1, p2⟩ | ⟨p1, p2⟩ | ⟨j, p1, rfl, p2, p3, _⟩
    · exact viaH _ p2
    · obtain ⟨n1, n2, n3⟩ := inv.new k x p2 r1
      exact ⟨n1, by omega, fun hs => (hnews _ hs).elim n3 fun hh => hh (hofO k x p1 p2 r1)⟩
    · exact viaH _ p2
  · have viaH : ∀ c, outKey ks d c = k → β' c = some x → ∃ bl, mget (msets (h.map fun p => (p.1, p.2.kill (mv.map (outKey ks d)))) (H.map fun q => (outKey ks d q.1, q.2.ren (outKey ks d)))) k = some bl ∧ (x.real = true → BlkOK w' S' β2 bl x) ∧ (x.real = false → bl.rows = [] ∧ bl.box = false) := by
      intro c hc hx
      obtain ⟨bl, a1, a2, a3⟩ := inv'.dom c x hx
      refine ⟨bl.ren (outKey ks d), by rw [hmg, ← hc, hat c bl a1]; rfl, fun hr => (a2 hr).ren fun q _ y hy => bi q y hy, fun hr => ren_virt (a3 hr)⟩
    rcases bc k x h1 with ⟨p1, p2⟩ | ⟨p1, p2⟩ | ⟨j, p1, e, p2, p3, _⟩
    · exact viaH _ (outKey_in p1) p2
    · obtain ⟨bl, a1, a2, a3⟩ := inv.dom k x p2
      have hno : mget (H.map fun q => (outKey ks d q.1, q.2.ren (outKey ks d))) k = none := by
        cases hm : mget (H.map fun q => (outKey ks d q.1, q.2.ren (outKey ks d))) k with
        | none => rfl
        | some y =>
          exfalso
          obtain ⟨q, hq, e⟩ := List.mem_map.1 (mget_mem hm)
          have e : outKey ks d q.1 = k := congrArg Prod.fst e
          obtain ⟨b, hb⟩ := mget_ne (m := H) (k := q.1) (List.mem_map_of_mem hq)
          rcases hkey _ b hb with ⟨k1, q1, _, q3⟩ | ⟨_, _, q3, q4⟩
          · rw [q3] at e; rw [e] at q1; exact p1 q1
          · rw [q3] at e; rw [e, a1] at q4; cases q4
      refine ⟨bl.kill (mv.map (outKey ks d)), by rw [hmg, hno, a1]; rfl, fun hr => (a2 hr).kill hgr (hbl.block _ (hofO k x p1 p2 hr)), fun hr => kill_virt (a3 hr)⟩
    · exact viaH _ p3 p2
  · rw [hmg] at h1
    cases hm : mget (H.map fun q => (outKey ks d q.1, q.2.ren (outKey ks d))) k with
    | some y =>
      obtain ⟨q, hq, e⟩ := List.mem_map.1 (mget_mem hm)
      have e : outKey ks d q.1 = k := congrArg Prod.fst e
      obtain ⟨b, hb⟩ := mget_ne (m := H) (k := q.1) (List.mem_map_of_mem hq)
      obtain ⟨x, hx⟩ := inv'.cov _ b hb
      exact ⟨x, by rw [← e]; exact bi _ x hx⟩
    | none =>
      rw [hm] at h1
      cases hk : mget h k with
      | none => rw [hk] at h1; cases h1
      | some b =>
        obtain ⟨x, hx⟩ := inv.cov k b hk
        by_cases hks : k ∈ ks
        · obtain ⟨b2, hb2⟩ := mget_ne (o3 k hks)
          have := hat _ b2 hb2
          rw [outKey_in hks, hm] at this
          cases this
        · exact ⟨x, by simp only [β2]; rw [if_neg hks, hx]⟩
theorem callH_sound (ok : EnvOK P E) (inv : Inv E B w S β h) {c : Call} {fo : Operand} (ho : o.op = .call c) (hc : c.callee = .value fo) {f : FuncId} {caps : List AV} (hf : RV w S β (.fn f caps) (a.eval fo))
    {uargs : List AV} (hargs : RL (RV w S β) uargs (c.args.toList.map a.eval)) {p : AV × Heap × List Nat} (hp : (callH E (mget h) o.dst f (uargs ++ caps)).val = some p) : KOK P E B o a w S β h p.1 p.2.1 p.2.2 := by
  obtain ⟨cvs, hfv, hcaps⟩ := (show RC w S β (.fn f caps) (a.eval fo) from hf)
  have hall : RL (RV w S β) (uargs ++ caps) (c.args.toList.map a.eval ++ cvs) := hargs.append (hcaps.imp fun b hb u hu => by
    by_cases hn : ∃ g cs, b = .fn g cs
    · obtain ⟨g, cs, rfl⟩ := hn
      cases (show R0 w S (.fn g cs) u from hu) with | fn => exact ⟨[], rfl, trivial⟩
    · exact RT.rv (RC.rt (by rw [RC_eq (fun g cs e => hn ⟨g, cs, e⟩)]; exact hu)))
  unfold callH callH1 at hp
  split at hp
  · rename_i hck
    simp only [Bool.and_eq_true] at hck
    obtain ⟨⟨hcl, hle⟩, hnd⟩ := hck
    have hnd := nodupB_spec hnd
    have hle : (reach (mget h) 2 (addK [] ((uargs ++ caps).flatMap refs2))).length ≤ 99 := by simpa using hle
    have hroot : ∀ x ∈ uargs ++ caps, ∀ k ∈ refs2 x, k ∈ reach (mget h) 2 (addK [] ((uargs ++ caps).flatMap refs2)) := fun x hx k hk => mem_reach 2 (mem_addK.2 (.inr (List.mem_flatMap.2 ⟨x, hx, hk⟩)))
    generalize reach (mget h) 2 (addK [] ((uargs ++ caps).flatMap refs2)) = ks at hp hcl hle hnd hroot
    rw [T.bind_some] at hp
    obtain ⟨⟨r, H, mv⟩, hE, hp⟩ := hp
    have hrun := run_enter (P := P) (w := w) (ok.hereh f _ _ _ hE) ho hc hfv
    have hspec := ok.spech f _ _ r H mv hE w S (keysIn β ks) _ (inv_in inv hcl hnd) (hall.map fun b hb u hu => ren2_rv (fun k hk y hy => by rw [keysIn_at (hroot b hb k hk)]; exact hy) hu)
    intro K Q hK
    unfold Oper.wp
    rw [hrun, Oper.upon_enter]
    refine hspec.mono ?_
    rintro e w' ⟨v, S', β', rfl, hbl, hsub, hnews, inv', hst, hrv⟩
    split at hp
    · rename_i d hd
      unfold callOut at hp
      split at hp
      · rename_i hok
        rw [T.ret_some] at hp
        subst hp
        obtain ⟨β2, i1, g1, b1⟩ := inv_back inv hcl hnd hle hok hbl hsub hnews inv' hst
        exact hK v w' S' β2 i1 g1 (ren2_rv (fun k _ y hy => b1 k y hy) hrv)
      · rw [T.fail_some] at hp; exact hp.elim
    · unfold callOut at hp
      split at hp
      · rename_i hok
        rw [T.ret_some] at hp
        subst hp
        obtain ⟨β2, i1, g1, b1⟩ := inv_back inv hcl hnd hle hok hbl hsub hnews inv' hst
        exact hK v w' S' β2 i1 g1 trivial
      · rw [T.fail_some] at hp; exact hp.elim
  · rw [T.fail_some] at hp; exact hp.elim
end

end

end Go.Proofs.YteoldedcobibaaaGreatDoor.M

namespace Go.Proofs.YteoldedcobibaaaGreatDoor.M
open Go Go.RowKit
set_option linter.unusedVariables false
set_option linter.unusedSimpArgs false

section

variable {P : Program} {E : Env}
section
variable {B : Nat → Prop} {N : Nat} {β0 : Nat → Option BI} {o : Oper} {a : Act} {w w' w0 : World} {S S' S0 : Nat → Prop} {β β' : Nat → Option BI} {h : Heap} {av : AV} {v : Value} {t : Tmps} {s s' : St} {g : Option (Nat × Bool)}
def plusK (S : Nat → Prop) (β : Nat → Option BI) (k : Nat) : Nat → Prop := fun b => S b ∨ ∃ x, β k = some x ∧ x.real = true ∧ x.b = b
def lessK (β : Nat → Option BI) (k : Nat) : Nat → Option BI := fun j => if j = k then none else β j
theorem own_slK (inv : Inv E B w S β h) {k : Nat} {bl : Blk} (hbox : bl.box = false) (hk : mget h k = some bl) (hv : RP w S β (.own k) v) : R0 w (plusK S β k) (.sl bl.rows) v := by
  obtain ⟨X, hX, h1, h2⟩ := hv
  obtain ⟨bl', hb, h3, h4⟩ := inv.dom k X hX
  rw [hk] at hb
  cases hb
  cases hr : X.real
  · obtain ⟨A, rfl⟩ := h2 hr
    rw [(h4 hr).1]
    exact R0.sl (rows := []) (size := 0) (b := 0) (off := 0) (vals := fun _ _ => .nilFunc) (by simp) (by simp) (by simp) (by simp) (by simp) (by simp)
  · obtain ⟨cs, ty, c1, c2, c3, c4, c5, c6, c7, c8⟩ := h3 hr
    rw [h1 hr, ← c3]
    refine R0.sl (size := X.size) (b := X.b) (off := 0) (vals := fun i j => (cs[i * X.size + j]?).getD .nilFunc) (by omega) c5 (fun _ => ⟨rfl, .inr ⟨X, hX, hr, rfl⟩⟩) (fun i row hi => (c8 i row hi).1) (fun i j row x hi hj => ?_) (fun i j row x hi hj => ?_)
    · obtain ⟨u, hu, _⟩ := (c8 i row hi).2 j x hj
      simp [World.cell?, c1, hu]
    · obtain ⟨u, hu, hru⟩ := (c8 i row hi).2 j x hj
      rw [hbox] at hru
      simp only [hu, Option.getD_some]
      exact R0.mono (fun _ _ => rfl) (fun b hb => .inl hb) (by simpa using hru)
theorem win_slK (inv : Inv E B w S β h) {k lo n : Nat} {bl : Blk} (hbox : bl.box = false) (hk : mget h k = some bl) (hv : RP w S β (.win k lo n) v) : R0 w (plusK S β k) (.sl ((bl.rows.drop lo).take n)) v := by
  obtain ⟨X, hX, A, c, rfl, hc, hm, hn⟩ := hv
  obtain ⟨bl', hb, h3, h4⟩ := inv.dom k X hX
  rw [hk] at hb
  cases hb
  exact win_cut (k := k) (fun b hb => .inl hb) hbox (fun hr => .inr ⟨X, hX, hr, rfl⟩) h3 hc hm hn
theorem frzL_rp (inv : Inv E B w S β h) {k : Nat} {bl : Blk} (hbox : bl.box = false) (hk : mget h k = some bl) {x : AV} (hr : RP w S β x v) : RP w (plusK S β k) (lessK β k) (frzL k bl x) v := by
  have keep : ∀ j, j ≠ k → ∀ y, β j = some y → lessK β k j = some y := fun j hj y hy => by simp [lessK, hj, hy]
  have h1 := hr.one
  cases x <;> simp only [frzL]
  case own j =>
    split
    · rename_i hj
      obtain rfl := beq_true.1 hj
      exact R0.rp (own_slK inv hbox hk hr)
    · rename_i hj
      obtain ⟨y, hy, h2⟩ := hr
      exact ⟨y, keep j (beq_false.1 hj) y hy, h2⟩
  case win j lo n =>
    split
    · rename_i hj
      obtain rfl := beq_true.1 hj
      exact R0.rp (win_slK inv hbox hk hr)
    · rename_i hj
      obtain ⟨y, hy, h2⟩ := hr
      exact ⟨y, keep j (beq_false.1 hj) y hy, h2⟩
  case ptr j i o =>
    split
    · exact .unk h1
    · rename_i hj
      obtain ⟨y, hy, h2⟩ := hr
      exact ⟨y, keep j (beq_false.1 hj) y hy, h2⟩
  case gd => exact .unk h1
  case e0 => exact hr
  case pel row off => obtain ⟨b, o, e1, e2⟩ := hr; exact ⟨b, o, e1, e2.mono (fun _ _ => rfl) fun b hb => .inl hb⟩
  case nz b rows => exact ⟨R0.mono (fun _ _ => rfl) (fun b hb => .inl hb) hr.1, hr.2⟩
  all_goals exact R0.mono (fun _ _ => rfl) (fun b hb => .inl hb) hr
theorem frzL_nofn {k : Nat} {bl : Blk} {x : AV} (hn : ∀ f cs, x ≠ .fn f cs) : ∀ f cs, frzL k bl x ≠ .fn f cs := by
  intro f cs e
  cases x <;> simp only [frzL] at e <;> first | (split at e <;> cases e; done) | (cases e; done) | exact hn _ _ rfl
theorem frz0_rc (inv : Inv E B w S β h) {k : Nat} {bl : Blk} (hbox : bl.box = false) (hk : mget h k = some bl) {x : AV} (hr : RC w S β x v) : RC w (plusK S β k) (lessK β k) (frz0 k bl x) v := by
  by_cases hn : ∃ f cs, x = .fn f cs
  · obtain ⟨f, cs, rfl⟩ := hn
    obtain ⟨vs, e1, e2⟩ := hr
    exact ⟨vs, e1, e2.map fun b hb u hu => frzL_rp inv hbox hk hu⟩
  · have hn' : ∀ f cs, x ≠ .fn f cs := fun f cs e => hn ⟨f, cs, e⟩
    rw [RC_eq hn'] at hr
    have e : frz0 k bl x = frzL k bl x := by cases x <;> first | rfl | exact absurd rfl (hn' _ _)
    rw [e, RC_eq (frzL_nofn hn')]
    exact frzL_rp inv hbox hk hr
theorem frz1_rt (inv : Inv E B w S β h) {k : Nat} {bl : Blk} (hbox : bl.box = false) (hk : mget h k = some bl) {x : AV} (hr : RT w S β x v) : RT w (plusK S β k) (lessK β k) (frz1 k bl x) v := by
  by_cases hn : ∃ cs, x = .agg cs
  · obtain ⟨cs, rfl⟩ := hn
    obtain ⟨vs, h1, h2⟩ := hr
    exact ⟨vs, h1, h2.map fun b hb u hu => frz0_rc inv hbox hk hu⟩
  · have hn' : ∀ cs, x ≠ .agg cs := fun cs e => hn ⟨cs, e⟩
    by_cases hu : x = .unk
    · subst hu; trivial
    · rw [RT_eq hn' hu] at hr
      have e : frz1 k bl x = frz0 k bl x := by cases x <;> first | rfl | exact absurd rfl (hn' _)
      rw [e]
      exact (frz0_rc inv hbox hk hr).rt
theorem frz2_rv (inv : Inv E B w S β h) {k : Nat} {bl : Blk} (hbox : bl.box = false) (hk : mget h k = some bl) {x : AV} (hr : RV w S β x v) : RV w (plusK S β k) (lessK β k) (frz2 k bl x) v := by
  by_cases hn : ∃ cs, x = .tup cs
  · obtain ⟨cs, rfl⟩ := hn
    obtain ⟨vs, h1, h2⟩ := hr
    exact ⟨vs, h1, h2.map fun b hb u hu => frz1_rt inv hbox hk hu⟩
  · by_cases hu : ∃ j b want y, x = .gd j b want y
    · obtain ⟨j, b, want, y, rfl⟩ := hu
      trivial
    · have hn' : ∀ cs, x ≠ .tup cs := fun cs e => hn ⟨cs, e⟩
      have hu' : ∀ j b w y, x ≠ .gd j b w y := fun j b w y e => hu ⟨j, b, w, y, e⟩
      rw [RV_eq hn' hu'] at hr
      have e : frz2 k bl x = frz1 k bl x := by cases x <;> first | rfl | exact absurd rfl (hn' _)
      rw [e]
      exact RT.rv (frz1_rt inv hbox hk hr)
theorem frz2_nogd {k : Nat} {bl : Blk} {x : AV} {j : Nat} {b want : Bool} {y : AV} : frz2 k bl x ≠ .gd j b want y := by
  intro e
  cases x <;> simp only [frz2, frz1, frz0, frzL] at e <;> first | (split at e <;> cases e; done) | (cases e; done)
theorem mget_filter {α : Type} (f : Nat → Bool) (m : List (Nat × α)) (k : Nat) : mget (m.filter fun p => f p.1) k = if f k = true then mget m k else none := by
  induction m with
  | nil => simp [mget]
  | cons p r ih =>
    obtain ⟨j, x⟩ := p
    simp only [List.filter_cons]
    cases hf : f j
    · simp only [Bool.false_eq_true, if_false, ih, mget]
      cases hb : Nat.beq k j
      · rfl
      · rw [beq_true.1 hb, hf]; rfl
    · simp only [if_true, mget, ih]
      cases hb : Nat.beq k j
      · rfl
      · rw [beq_true.1 hb, hf]; rfl
theorem freeze_rel (rel : Rel E B N w0 S0 β0 s a w S β) (k : Nat) : ∃ S' β', Rel E B N w0 S0 β0 (s.freeze k) a w S' β' := by
  unfold St.freeze
  split
  · rename_i bl hbl
    split
    · exact ⟨S, β, rel⟩
    · rename_i hbox
      have inv := rel.inv
      refine ⟨plusK S β k, lessK β k, ?_, fun n => ?_, fun n j b want x hn => ?_, rel.below, fun b hb => .inl (rel.sub b hb), ?_, fun j x hi hm hx => rel.fix j x hi hm (by unfold lessK at hx; split at hx; cases hx; exact hx), rel.size, rel.defers⟩
      · have lk : ∀ j x, lessK β k j = some x → j ≠ k ∧ β j = some x := by
          intro j x hx
          unfold lessK at hx
          split at hx
          · cases hx
          · exact ⟨‹_›, hx⟩
        refine ⟨inv.base, ?_, fun j j' x x' h1 h2 => inv.inj j j' x x' (lk j x h1).2 (lk j' x' h2).2, ?_, ?_, ?_, fun gl row hg => (inv.glob gl row hg).mono (fun _ _ => rfl) fun b hb => .inl hb⟩
        · rintro b (hb | ⟨x, h1, h2, rfl⟩)
          · exact inv.lt b hb
          · exact (inv.new k x h1 h2).2.1
        · intro j x h1 r1
          obtain ⟨hj, hx⟩ := lk j x h1
          obtain ⟨n1, n2, n3⟩ := inv.new j x hx r1
          refine ⟨n1, n2, ?_⟩
          rintro (hs | ⟨y, h2, h3, e⟩)
          · exact n3 hs
          · exact hj (inv.inj j k x y hx h2 r1 h3 e.symm)
        · intro j x h1
          obtain ⟨hj, hx⟩ := lk j x h1
          obtain ⟨b1, a1, a2, a3⟩ := inv.dom j x hx
          refine ⟨b1.frz k bl, by show mget ((s.h.filter fun p => !Nat.beq p.1 k).map fun p => (p.1, p.2.frz k bl)) j = _; rw [mget_map (fun c => Blk.frz k c bl), mget_filter (fun q => !Nat.beq q k), if_pos (by simp [beq_false.2 hj]), a1]; rfl, fun hr => ?_, fun hr => ?_⟩
          · obtain ⟨cs, ty, c1, c2, c3, c4, c5, c6, c7, c8⟩ := a2 hr
            unfold Blk.frz
            split
            · rename_i hb1
              refine ⟨cs, ty, c1, c2, by simpa using c3, c4, c5, c6, c7, fun i row hi => ?_⟩
              have hi : (b1.rows.map (·.map (frz0 k bl)))[i]? = some row := hi
              simp only [List.getElem?_map, Option.map_eq_some_iff] at hi
              obtain ⟨row0, hi0, rfl⟩ := hi
              refine ⟨by simpa using (c8 i row0 hi0).1, fun q y hq => ?_⟩
              simp only [List.getElem?_map, Option.map_eq_some_iff] at hq
              obtain ⟨y1, hq1, rfl⟩ := hq
              obtain ⟨u, hu, hru⟩ := (c8 i row0 hi0).2 q y1 hq1
              rw [hb1] at hru
              exact ⟨u, hu, by rw [hb1]; simp only [if_true] at hru ⊢; exact frz0_rc inv hbox hbl hru⟩
            · rename_i hb1
              refine ⟨cs, ty, c1, c2, c3, c4, c5, c6, c7, fun i row hi => ?_⟩
              refine ⟨(c8 i row hi).1, fun q y hq => ?_⟩
              obtain ⟨u, hu, hru⟩ := (c8 i row hi).2 q y hq
              rw [hb1] at hru
              exact ⟨u, hu, by rw [hb1]; simp only [Bool.false_eq_true, if_false] at hru ⊢; exact hru.mono (fun _ _ => rfl) fun b hb => .inl hb⟩
          · obtain ⟨q1, q2⟩ := a3 hr
            unfold Blk.frz
            rw [q2]
            exact ⟨q1, q2⟩
        · intro j b1 h1
          have h1 : mget ((s.h.filter fun p => !Nat.beq p.1 k).map fun p => (p.1, p.2.frz k bl)) j = some b1 := h1
          rw [mget_map (fun c => Blk.frz k c bl), mget_filter (fun q => !Nat.beq q k)] at h1
          split at h1
          · rename_i hj
            have hj : j ≠ k := beq_false.1 (by simpa using hj)
            cases hm : mget s.h j with
            | none => rw [hm] at h1; cases h1
            | some b2 =>
              obtain ⟨x, hx⟩ := inv.cov j b2 hm
              exact ⟨x, by simp [lessK, hj, hx]⟩
          · cases h1
      · show RV w _ _ (getT (s.t.map fun p => (p.1, frz2 k bl p.2)) n) _
        rw [getT_map s.t (frz2 k bl) rfl n]
        exact frz2_rv inv hbox hbl (rel.tok n)
      · have hn : getT (s.t.map fun p => (p.1, frz2 k bl p.2)) n = .gd j b want x := hn
        rw [getT_map s.t (frz2 k bl) rfl n] at hn
        exact absurd hn frz2_nogd
      · rintro b (hb | ⟨x, h1, h2, rfl⟩)
        · exact rel.news b hb
        · exact .inr (inv.new k x h1 h2).1
  · exact ⟨S, β, rel⟩
theorem freezes_rel : ∀ (ks : List Nat) {s : St} {S : Nat → Prop} {β : Nat → Option BI}, Rel E B N w0 S0 β0 s a w S β → ∃ S' β', Rel E B N w0 S0 β0 (s.freezes ks) a w S' β'
  | [], s, S, β, rel => ⟨S, β, rel⟩
  | k :: r, s, S, β, rel => by
    obtain ⟨S1, β1, rel1⟩ := freeze_rel rel k
    exact freezes_rel r rel1
theorem isApp_some {op : Op} {x y : Operand} {ty : TypeId} (hi : isApp op = some (x, y, ty)) : op = .call ⟨.builtin .append, #[x, y], #[ty, ty]⟩ := by
  unfold isApp at hi
  split at hi
  · rename_i c
    obtain ⟨callee, args, ts⟩ := c
    split at hi
    · rename_i hc
      simp only at hc hi
      subst hc
      split at hi
      · rename_i x' y' t' t'' ha hts
        split at hi
        · rename_i htt
          obtain rfl := beq_true.1 htt
          simp only [Option.some.injEq, Prod.mk.injEq] at hi
          obtain ⟨rfl, rfl, rfl⟩ := hi
          obtain rfl : args = #[x', y'] := by cases args; simp at ha; simp [ha]
          obtain rfl : ts = #[t', t'] := by cases ts; simp at hts; simp [hts]
          rfl
        · cases hi
      · cases hi
    · cases hi
  · cases hi
theorem hcallOf_some {ρ : Operand → AV} {op : Op} {f : FuncId} {args : List AV} (hc : hcallOf E ρ op = some (f, args)) : ∃ c fo caps, op = .call c ∧ c.callee = .value fo ∧ ρ fo = .fn f caps ∧ args = c.args.toList.map ρ ++ caps := by
  unfold hcallOf at hc
  split at hc
  · rename_i c
    split at hc
    · rename_i fo hfo
      split at hc
      · rename_i f' caps hcap
        split at hc
        · simp only [Option.some.injEq, Prod.mk.injEq] at hc
          obtain ⟨rfl, rfl⟩ := hc
          exact ⟨c, fo, caps, rfl, hfo, hcap, rfl⟩
        · cases hc
      · cases hc
    · cases hc
  · cases hc
theorem step1_sound (ok : EnvOK P E) (rel : Rel E B N w0 S0 β0 s a w S β) (hg : GuardOK a g) (hd : ∀ d, o.dst = some d → d < N) {wr : Option (List Nat × List Nat)} (hn : (step1 E g s o).val = some (s', wr)) : StepOK P E B N w0 S0 β0 o a w s' := by
  unfold step1 at hn
  split at hn
  · rename_i x y ty hi
    have ho := isApp_some hi
    split at hn
    · rename_i j hj
      rw [T.bind_some] at hn
      obtain ⟨p, h1, h2⟩ := hn
      have hx := rel.args hg (E := E) x
      have hj' : ρOf E g s.t x = .own j := by unfold ownOf at hj; split at hj <;> first | (cases hj; assumption) | (cases hj)
      rw [hj'] at hx
      exact kfin_sound rel hd (appOwn_sound ok rel.inv hx (rel.args hg (E := E) y) ho h1) h2
    · rw [T.bind_some] at hn
      obtain ⟨⟨s1, ws⟩, h1, h2⟩ := hn
      rw [show wrS (s1, ws) = .ret (s1, some (ws, [])) from rfl, T.ret_some] at h2
      cases h2
      exact norm_sound ok rel hg hd h1
  · split at hn
    · rename_i f uargs hc
      rw [T.bind_some] at hn
      obtain ⟨p, h1, h2⟩ := hn
      obtain ⟨c, fo, caps, c1, c2, c3, c4⟩ := hcallOf_some hc
      have hf := rel.args hg (E := E) fo
      rw [c3] at hf
      subst c4
      exact kfin_sound rel hd (callH_sound ok rel.inv c1 c2 hf (args_rl (rel.args hg (E := E)) _) h1) h2
    split at hn
    · rw [T.bind_some] at hn
      obtain ⟨⟨s1, ws⟩, h1, h2⟩ := hn
      rw [show wrS (s1, ws) = .ret (s1, some (ws, [])) from rfl, T.ret_some] at h2
      cases h2
      exact norm_sound ok rel hg hd h1
    · split at hn
      · rename_i hpl
        rw [T.bind_some] at hn
        obtain ⟨⟨s1, ws⟩, h1, h2⟩ := hn
        rw [show wrA (s1, ws) = .ret (s1, none) from rfl, T.ret_some] at h2
        cases h2
        obtain ⟨S1, β1, rel1⟩ := freezes_rel (frz E (ρOf E g s.t) o.dst o.op) rel
        refine norm_sound ok rel1 (fun d want hgd => ?_) hd h1
        exact hg d want hgd
      · rw [T.fail_some] at hn; exact hn.elim
def OpOK (P : Program) (E : Env) (B : Nat → Prop) (N : Nat) (w0 : World) (S0 : Nat → Prop) (β0 : Nat → Option BI) (ops : Array Oper) (o : Oper) (a : Act) (w : World) (s' : St) : Prop :=
  ∀ (K : Act → World → Prop) (Q : Exit → Act → World → Prop), (∀ a' w', RelE E B N w0 S0 β0 s' a' w' → K a' w') →
    if Region.wanted o (yielded ops a.tmps) then o.wp P a w K Q else K (a.put o.dst undef) w
theorem skip_rel (rel : Rel E B N w0 S0 β0 s a w S β) (hd : ∀ d, o.dst = some d → d < N) (x : AV) (hx : RV w S β x undef) (hg : GdOK (setD s.t o.dst x) (a.put o.dst undef)) : RelE E B N w0 S0 β0 ⟨setD s.t o.dst x, s.h⟩ (a.put o.dst undef) w :=
  ⟨S, β, rel.inv, rel.tok.put (fun d hdd => by rw [rel.size]; exact hd d hdd) hx, hg, rel.below, rel.sub, rel.news, rel.fix, by rw [put_size]; exact rel.size, by rw [put_defers]; exact rel.defers⟩
theorem safe_nil {ρ : Operand → AV} {hg : Nat → Option Blk} {p : AV × Heap} (hs : safeOp o.op = true) (hp : (eff E ρ hg o).val = some p) : p.2 = [] := by
  have pl : ∀ {t : T AV} {p : AV × Heap}, t.plain.val = some p → p.2 = [] := fun {t p} h => by rw [T.plain_some] at h; obtain ⟨a, _, rfl⟩ := h; rfl
  unfold eff at hp
  split at hp <;> first | (rw [T.fail_some] at hp; exact hp.elim) | skip
  all_goals rename_i ho
  all_goals rw [ho] at hs
  all_goals first | (simp [safeOp] at hs; done) | skip
  · rw [show plain _ = .ret _ from rfl, T.ret_some] at hp; subst hp; rfl
  · split at hp
    · split at hp
      · exact pl hp
      · rw [T.fail_some] at hp; exact hp.elim
    · rw [T.fail_some] at hp; exact hp.elim
  · split at hp <;> exact pl hp
  · exact pl hp
  · split at hp
    · exact pl hp
    · rw [T.fail_some] at hp; exact hp.elim
  · split at hp
    · exact pl hp
    · rw [T.fail_some] at hp; exact hp.elim
  · split at hp
    · exact pl hp
    · rw [T.fail_some] at hp; exact hp.elim
  · rename_i c
    split at hp
    · rename_i b hb
      simp only [safeOp, hb] at hs
      unfold builtinK at hp
      split at hp <;> first | (rw [T.fail_some] at hp; exact hp.elim) | (simp at hs; done) | skip
      split at hp
      · split at hp
        · exact pl hp
        · rw [T.fail_some] at hp; exact hp.elim
      · rw [T.fail_some] at hp; exact hp.elim
    · rename_i f hb
      simp only [safeOp, hb] at hs
      cases hs
    · rw [T.fail_some] at hp; exact hp.elim
theorem skip_sound (rel : Rel E B N w0 S0 β0 s a w S β) (hd : ∀ d, o.dst = some d → d < N) {ops : Array Oper} {j d : Nat} {want : Bool} (hgu : o.guard = some (j, want)) (hno : Region.wanted o (yielded ops a.tmps) = false) (hm : mget s.t d ≠ none) (hne : a.tmps.getD d undef ≠ .bool want)
    {wr : Option (List Nat × List Nat)} (hs : (skipO s o d want).val = some (s', wr)) : OpOK P E B N w0 S0 β0 ops o a w s' := by
  intro K Q hK
  rw [if_neg (by rw [hno]; simp)]
  rw [show skipO s o d want = .ret (⟨setD s.t o.dst (skipV o s.t d want), s.h⟩, some ([], [])) from rfl, T.ret_some] at hs
  cases hs
  have hx : RV w S β (skipV o s.t d want) undef ∧ GdOK (setD s.t o.dst (skipV o s.t d want)) (a.put o.dst undef) := by
    unfold skipV
    split
    · rename_i hnd
      refine ⟨⟨(fun h => by cases h), fun _ => rfl⟩, rel.gd.set _ _ fun d' j' b' want' x' hdst hx => ?_⟩
      cases hx
      unfold notDst at hnd
      rw [hdst] at hnd
      simp only [Bool.and_eq_true, Bool.not_eq_true'] at hnd
      exact ⟨fun e => (beq_false.1 hnd.1) e.symm, hm, ⟨(fun h => by cases h), fun h => absurd h hne⟩⟩
    · exact ⟨trivial, rel.gd.set _ _ fun d j b want x _ hx => by cases hx⟩
  exact hK _ _ (skip_rel rel hd _ hx.1 hx.2)
theorem safeAt_true {d : Nat} {want : Bool} (h : safeAt E s o d want = true) : safeOp o.op = true ∧ notDst o s.t d = true := by
  unfold safeAt at h
  split at h
  · rename_i h1
    simp only [Bool.and_eq_true] at h
    exact ⟨h1, h.1⟩
  · cases h
theorem guarded_sound (ok : EnvOK P E) (rel : Rel E B N w0 S0 β0 s a w S β) (hd : ∀ d, o.dst = some d → d < N) {ops : Array Oper} {j d : Nat} {f want : Bool} (hgu : o.guard = some (j, want)) (hm : mget s.t d ≠ none) (hf : f = true ↔ a.tmps.getD d undef = .bool want)
    (hw : Region.wanted o (yielded ops a.tmps) = true ↔ f = true) {wr : Option (List Nat × List Nat)} (hn : (guarded E s o d f want).val = some (s', wr)) : OpOK P E B N w0 S0 β0 ops o a w s' := by
  have hskip : f = false → (skipO s o d want).val = some (s', wr) → OpOK P E B N w0 S0 β0 ops o a w s' := by
    intro hne hs
    exact skip_sound rel hd hgu (by cases hq : Region.wanted o (yielded ops a.tmps) <;> simp_all) hm (fun e => by rw [hf.2 e] at hne; cases hne) hs
  unfold guarded at hn
  split at hn
  · rename_i hsafe
    obtain ⟨hsafe, hnd⟩ := safeAt_true hsafe
    split at hn
    · rename_i p hp
      split at hn
      · rename_i hfl
        rw [T.ret_some] at hn
        cases hn
        have hgd : ∀ u, GdOK (setD s.t o.dst (.gd d f want p.1)) (a.put o.dst u) := fun u => rel.gd.set _ _ fun d' j' b' want' x' hdst hx => by
          cases hx
          unfold notDst at hnd
          rw [hdst] at hnd
          simp only [Bool.and_eq_true, Bool.not_eq_true'] at hnd
          exact ⟨fun e => (beq_false.1 hnd.1) e.symm, hm, hf⟩
        intro K Q hK
        cases hfv : f with
        | true =>
          rw [if_pos (hw.2 hfv)]
          have hg : GuardOK a (some (d, want)) := fun d' want' e => by cases e; exact hf.1 hfv
          refine eff_sound ok rel.inv (rel.args hg) (rel.picks hg) hp K Q fun v w' S' β' inv' gr hv => hK _ _ ⟨S', β', ?_, ?_, hgd v, rel.below.trans gr.below, fun q hq => gr.sub q (rel.sub q hq), fun q hq => (gr.news q hq).elim (rel.news q) .inr, fun k x hi hm hx => rel.fix k x hi hm (gr.old k x hi hx), by rw [put_size]; exact rel.size, by rw [put_defers]; exact rel.defers⟩
          · -- safe operations write no block
            have hws : p.2 = [] := safe_nil hsafe hp
            rw [hws] at inv'
            exact inv'
          · refine TOK.put (fun n => gr.rv (rel.tok n)) (fun d hdd => by rw [rel.size]; exact hd d hdd) ⟨fun _ => ?_, fun hne => by rw [hfv] at hne; cases hne⟩
            have : RV w' S' β' p.1 v := hv
            cases hp1 : p.1 <;> rw [hp1] at this hfl <;> first | exact this | (simp [isFlat] at hfl)
        | false =>
          rw [if_neg (fun h => by rw [hw.1 h] at hfv; cases hfv)]
          exact hK _ _ (skip_rel rel hd _ ⟨(fun e => by rw [hfv] at e; cases e), fun _ => rfl⟩ (hgd _))
      · rw [T.fail_some] at hn; exact hn.elim
    · rw [T.ifB_some] at hn
      rcases hn with ⟨_, hn⟩ | ⟨hq, hn⟩
      · rw [T.fail_some] at hn; exact hn.elim
      · exact hskip hq hn
  · rw [T.ifB_some] at hn
    rcases hn with ⟨hq, hn⟩ | ⟨hq, hn⟩
    · intro K Q hK
      rw [if_pos (hw.2 hq)]
      exact step1_sound ok rel (fun d' want' e => by cases e; exact hf.1 hq) hd hn K Q hK
    · exact hskip hq hn
theorem yielded_at {ops : Array Oper} {j d : Nat} (hj : dstOf ops.toList j = some d) (hlt : d < a.tmps.size) (want : Bool) : yielded ops a.tmps j = some want ↔ a.tmps.getD d undef = .bool want := by
  unfold dstOf at hj
  split at hj
  · rename_i o ho
    simp only [Array.getElem?_toList] at ho
    simp only [yielded, ho, Option.bind_some, hj]
    simp only [Array.getD_eq_getD_getElem?, Array.getElem?_eq_getElem hlt, Option.getD_some]
    cases a.tmps[d] <;> simp
  · cases hj
theorem stepG_sound (ok : EnvOK P E) (rel : Rel E B N w0 S0 β0 s a w S β) (hd : ∀ d, o.dst = some d → d < N) {ops : Array Oper} (hdo : ∀ j d, dstOf ops.toList j = some d → d < N) {wr : Option (List Nat × List Nat)} (hn : (stepG E ops.toList s o).val = some (s', wr)) : OpOK P E B N w0 S0 β0 ops o a w s' := by
  unfold stepG at hn
  split at hn
  · rename_i hgu
    intro K Q hK
    rw [if_pos (by simp [Region.wanted, hgu])]
    exact step1_sound ok rel (fun d want e => by cases e) hd hn K Q hK
  · rename_i j want hgu
    split at hn
    · rename_i d hj
      have hlt : d < a.tmps.size := by rw [rel.size]; exact hdo j d hj
      have ht := rel.tok d
      have hya := yielded_at (a := a) hj hlt want
      have hwa : Region.wanted o (yielded ops a.tmps) = true ↔ a.tmps.getD d undef = .bool want := by
        rw [← hya]
        simp only [Region.wanted, hgu]
        simp
      have hm : getT s.t d ≠ .unk → mget s.t d ≠ none := fun hu hh => hu (by unfold getT; rw [hh])
      split at hn
      · rename_i b hb
        rw [hb] at ht
        have hv := (rv_v ht).1
        have hf : asked b want = true ↔ a.tmps.getD d undef = .bool want := by rw [hv, asked_eq]; simp
        exact guarded_sound ok rel hd hgu (hm (by rw [hb]; simp)) hf (hwa.trans hf.symm) hn
      · rename_i j' f w' b hb
        rw [hb] at ht
        have hf : (f && asked b want) = true ↔ a.tmps.getD d undef = .bool want := by
          rw [Bool.and_eq_true]
          cases hfv : f with
          | true =>
            have hv := (rv_v (RT.rv (ht.1 hfv))).1
            rw [hv, asked_eq]; simp
          | false =>
            have hv := ht.2 hfv
            rw [hv]
            constructor
            · rintro ⟨h, _⟩; cases h
            · intro h; cases h
        exact guarded_sound ok rel hd hgu (hm (by rw [hb]; simp)) hf (hwa.trans hf.symm) hn
      · rename_i j' f w' x hnb hb
        rw [hb] at ht
        rw [T.ifB_some] at hn
        rcases hn with ⟨_, hn⟩ | ⟨hq, hn⟩
        · rw [T.fail_some] at hn; exact hn.elim
        · have hv := ht.2 hq
          have hne : a.tmps.getD d undef ≠ .bool want := by rw [hv]; intro h; cases h
          exact skip_sound rel hd hgu (by cases hq' : Region.wanted o (yielded ops a.tmps) <;> simp_all) (hm (by rw [hb]; simp)) hne hn
      · rw [T.fail_some] at hn; exact hn.elim
    · rw [T.fail_some] at hn; exact hn.elim
end

end

section

variable {P : Program} {E : Env}
section
variable {B : Nat → Prop} {N : Nat} {β0 : Nat → Option BI} {o : Oper} {a : Act} {w w' w0 : World} {S S' S0 : Nat → Prop} {β β' : Nat → Option BI} {h : Heap} {av : AV} {v : Value} {t : Tmps} {s s' : St} {g : Option (Nat × Bool)}
def DstOK (N : Nat) (ops : Array Oper) : Prop := ∀ o ∈ ops.toList, ∀ d, o.dst = some d → d < N
theorem DstOK.at {ops : Array Oper} (hd : DstOK N ops) {j d : Nat} (hj : dstOf ops.toList j = some d) : d < N := by
  unfold dstOf at hj
  split at hj
  · rename_i o ho; exact hd o (List.mem_of_getElem? ho) d hj
  · cases hj
theorem wpOp_of {ops : Array Oper} {i : Nat} {Q : Exit → Act → World → Prop} {K : Act → World → Prop} (hi : ops[i]? = some o) (ho : OpOK P E B N w0 S0 β0 ops o a w s') (hK : ∀ a' w', RelE E B N w0 S0 β0 s' a' w' → K a' w') : wpOp P ops Q i K a w := by
  have := ho K Q hK
  unfold wpOp
  simp only [hi]
  split
  · rename_i hw; rw [if_pos hw] at this; exact .inl this
  · rename_i hw; rw [if_neg hw] at this; exact this
theorem renew_sound (inv : Inv E B w S β h) {d : Nat} {x : Operand} (hx : RV w S β .e0 (a.eval x)) (ho : o.op = .assign x) {b : Blk} (hb : mget h d = some b) (e z : Nat) : KOK P E B o a w S β h (.own d) [(d, ⟨false, e, z, []⟩)] [d] := by
  obtain ⟨A, hA⟩ := rv_e0 hx
  intro K Q hK
  unfold Oper.wp
  have hr : (execOp a.eval o).run P w = .ok (.value (a.eval x)) w := by simp [execOp, ho]
  rw [hr, Oper.upon_value]
  have gj : GrK B [d] w S β w S (upd β d ⟨false, 0, 0, 0, 0⟩) := ⟨Blw.refl _ _, fun _ _ => rfl, fun _ h => h, fun _ h => .inl h, fun k y hk h1 => by rw [upd_ne β _ (by simpa using hk)]; exact h1, fun k y _ hk h1 => by rwa [upd_ne β _ (by simpa using hk)] at h1⟩
  refine hK _ w S _ ?_ gj ⟨_, upd_self _ _ _, (fun h => by cases h), fun _ => ⟨A, hA⟩⟩
  refine ⟨inv.base, inv.lt, ?_, ?_, ?_, ?_, inv.glob⟩
  · intro k k' y y' h1 h2 r1 r2 ee
    by_cases e1 : k = d
    · subst e1; rw [upd_self] at h1; cases h1; cases r1
    · by_cases e2 : k' = d
      · subst e2; rw [upd_self] at h2; cases h2; cases r2
      · rw [upd_ne β _ e1] at h1; rw [upd_ne β _ e2] at h2; exact inv.inj k k' y y' h1 h2 r1 r2 ee
  · intro k y h1 r1
    by_cases e1 : k = d
    · subst e1; rw [upd_self] at h1; cases h1; cases r1
    · rw [upd_ne β _ e1] at h1; exact inv.new k y h1 r1
  · intro k y h1
    simp only [msets]
    by_cases e1 : k = d
    · subst e1
      rw [upd_self] at h1
      cases h1
      exact ⟨⟨false, e, z, []⟩, by rw [mget_mset, if_pos rfl], (fun hr => by cases hr), fun _ => ⟨rfl, rfl⟩⟩
    · rw [upd_ne β _ e1] at h1
      obtain ⟨b1, a1, a2, a3⟩ := inv.dom k y h1
      exact ⟨b1.kill [d], by rw [mget_mset, if_neg e1, mget_map, a1]; rfl, fun hr => (a2 hr).kill gj rfl, fun hr => kill_virt (a3 hr)⟩
  · intro k b1 h1
    simp only [msets] at h1
    rw [mget_mset] at h1
    by_cases e1 : k = d
    · subst e1; exact ⟨_, upd_self _ _ _⟩
    · rw [if_neg e1, mget_map] at h1
      cases hk : mget h k with
      | none => rw [hk] at h1; cases h1
      | some b2 =>
        obtain ⟨y, hy⟩ := inv.cov k b2 hk
        exact ⟨y, by rw [upd_ne β _ e1]; exact hy⟩
theorem stepN_sound (ok : EnvOK P E) (rel : Rel E B N w0 S0 β0 s a w S β) (hd : ∀ d, o.dst = some d → d < N) {ops : Array Oper} (hdo : ∀ j d, dstOf ops.toList j = some d → d < N) {wr : Option (List Nat × List Nat)} (hn : (stepN E ops.toList s o).val = some (s', wr)) : OpOK P E B N w0 S0 β0 ops o a w s' := by
  unfold stepN at hn
  split at hn
  · rename_i p hp
    unfold renewOf at hp
    split at hp
    · rename_i hgu
      split at hp
      · rename_i x ho
        split at hp
        · rename_i h0
          split at hp
          · rename_i d hdst
            split at hp
            · split at hp
              · rename_i b hb
                split at hp
                · cases hp
                · split at hp
                  · rename_i ti hti
                    simp only [Option.some.injEq] at hp
                    subst hp
                    have hx := rel.args (g := none) (fun d want e => by cases e) (E := E) x
                    have he : ρOf E none s.t x = .e0 := by cases hh : ρOf E none s.t x <;> rw [hh] at h0 <;> first | rfl | (simp [isE0] at h0)
                    rw [he] at hx
                    intro K Q hK
                    rw [if_pos (by simp [Region.wanted, hgu])]
                    exact kfin_sound rel hd (renew_sound rel.inv hx ho hb _ _) hn K Q hK
                  · cases hp
              · cases hp
            · cases hp
          · cases hp
        · cases hp
      · cases hp
    · cases hp
  · obtain ⟨S1, β1, rel1⟩ := freezes_rel (storeFrz E s.t (mget s.h) o) rel
    exact stepG_sound ok rel1 hd hdo hn
theorem steps_sound (ok : EnvOK P E) {ops : Array Oper} (hd : DstOK N ops) {Q : Exit → Act → World → Prop} : ∀ (r : List Oper) (k : Nat), (∀ j, r[j]? = ops[k + j]?) → ∀ (s s' : St) (a : Act) (w : World), RelE E B N w0 S0 β0 s a w →
    (steps E ops.toList r s).val = some s' → (∀ a' w', RelE E B N w0 S0 β0 s' a' w' → Q .normal a' w') → wpOps P ops Q (List.range' k r.length) a w
  | [], k, hr, s, s', a, w, rel, hs, hQ => by
    rw [steps, T.ret_some] at hs
    subst hs
    exact hQ a w rel
  | o :: r, k, hr, s, s', a, w, ⟨S, β, rel⟩, hs, hQ => by
    rw [steps, T.bind_some] at hs
    obtain ⟨⟨s1, wr⟩, h1, h2⟩ := hs
    have hi : ops[k]? = some o := by have := hr 0; simpa using this.symm
    rw [List.length_cons, List.range'_succ, wpOps_cons]
    refine wpOp_of hi (stepN_sound ok rel (fun d hdd => hd o (by simpa using Array.mem_of_getElem? hi) d hdd) (fun j d hj => hd.at hj) h1) fun a' w' rel' => ?_
    exact steps_sound ok hd r (k + 1) (fun j => by have := hr (j + 1); rw [List.getElem?_cons_succ] at this; rw [this]; congr 1; omega) s1 s' a' w' rel' h2 hQ
theorem region_sound (ok : EnvOK P E) {ops : Array Oper} (hd : DstOK N ops) {id : Nat} {Q : Exit → Act → World → Prop} (rel : RelE E B N w0 S0 β0 s a w) (hs : (steps E ops.toList ops.toList s).val = some s') (hQ : ∀ a' w', RelE E B N w0 S0 β0 s' a' w' → Q .normal a' w') :
    (Code.region id ops false).wp P Q a w := by
  refine wp_region ?_
  rw [List.range_eq_range']
  have := steps_sound ok hd (Q := Q) ops.toList 0 (fun j => by simp) s s' a w rel hs hQ
  simpa using this

def keysOf (hg : Nat → Option Blk) (ρ : Operand → AV) (o : Oper) : List Nat := dstKeys o.dst ++ (match memOp o.op with
  | true => reach hg 1 (o.op.operands.toList.flatMap fun x => refs2 (ρ x))
  | false => [])
theorem view0_congr {hg hg' : Nat → Option Blk} {x : AV} (hk : ∀ k ∈ refsC x, hg k = hg' k) : view0 hg x = view0 hg' x := by
  cases x
  case own k => simp only [view0]; rw [hk k (by simp [refsC, refs0])]
  case win k lo n => simp only [view0]; rw [hk k (by simp [refsC, refs0])]
  case fn f cs => cases cs <;> rfl
  all_goals rfl
theorem reach_sub {hg : Nat → Option Blk} : ∀ (n : Nat) {ks ks' : List Nat}, (∀ k ∈ ks, k ∈ ks') → ∀ k ∈ reach hg n ks, k ∈ reach hg n ks'
  | 0, ks, ks', h, k, hk => h k hk
  | n + 1, ks, ks', h, k, hk => by
    refine reach_sub n (ks := addK ks (ks.flatMap (refsH hg))) (ks' := addK ks' (ks'.flatMap (refsH hg))) (fun j hj => ?_) k hk
    rcases mem_addK.1 hj with hj | hj
    · exact mem_addK.2 (.inl (h j hj))
    · obtain ⟨i, hi, hj⟩ := List.mem_flatMap.1 hj
      exact mem_addK.2 (.inr (List.mem_flatMap.2 ⟨i, h i hi, hj⟩))
theorem viewP_congr {hg hg' : Nat → Option Blk} {x : AV} (hk : ∀ k ∈ reach hg 1 (refs0 x), hg k = hg' k) : viewP hg x = viewP hg' x := by
  cases x
  case ptr k i off =>
    have e := hk k (mem_reach 1 (by simp [refs0]))
    simp only [viewP]
    rw [← e]
    cases hb : hg k with
    | none => rfl
    | some b =>
      simp only []
      cases hbx : b.box with
      | false => rfl
      | true =>
        simp only []
        cases hr : b.rows[i]? with
        | none => rfl
        | some row =>
          simp only []
          congr 1
          refine List.map_congr_left fun y hy => view0_congr fun j hj => hk j ?_
          refine mem_reach_succ 0 (k := k) (b := b) (by simp [reach, refs0]) hb ?_
          unfold blkRefs
          rw [hbx]
          simp only [List.mem_flatMap]
          exact ⟨row, List.mem_of_getElem? hr, y, hy, refsC_sub hj⟩
  case own k => exact view0_congr (x := .own k) fun j hj => hk j (mem_reach 1 hj)
  case win k lo n => exact view0_congr (x := .win k lo n) fun j hj => hk j (mem_reach 1 hj)
  case fn f cs => cases cs <;> rfl
  all_goals rfl
theorem viewC_congr {hg hg' : Nat → Option Blk} {x : AV} (hk : ∀ k ∈ reach hg 1 (refsC x), hg k = hg' k) : viewC hg x = viewC hg' x := by
  by_cases hn : ∃ f cs, x = .fn f cs
  · obtain ⟨f, cs, rfl⟩ := hn
    simp only [viewC]
    congr 1
    exact List.map_congr_left fun y hy => viewP_congr fun k hkk => hk k (reach_sub 1 (fun j hj => by simp only [refsC, List.mem_flatMap]; exact ⟨y, hy, hj⟩) k hkk)
  · have hn' : ∀ f cs, x ≠ .fn f cs := fun f cs e => hn ⟨f, cs, e⟩
    have e : ∀ hg, viewC hg x = viewP hg x := fun hg => by cases x <;> first | rfl | exact absurd rfl (hn' _ _)
    rw [e, e]
    rw [refsC_eq hn'] at hk
    exact viewP_congr hk
theorem view1_congr {hg hg' : Nat → Option Blk} {x : AV} (hk : ∀ k ∈ reach hg 1 (refs1 x), hg k = hg' k) : view1 hg x = view1 hg' x := by
  by_cases hn : ∃ cs, x = .agg cs
  · obtain ⟨cs, rfl⟩ := hn
    simp only [view1]
    congr 1
    exact List.map_congr_left fun y hy => viewC_congr fun k hkk => hk k (reach_sub 1 (fun j hj => by simp only [refs1, List.mem_flatMap]; exact ⟨y, hy, hj⟩) k hkk)
  · have hn' : ∀ cs, x ≠ .agg cs := fun cs e => hn ⟨cs, e⟩
    have e : ∀ hg, view1 hg x = viewC hg x := fun hg => by cases x <;> first | rfl | exact absurd rfl (hn' _)
    rw [e, e]
    rw [refs1_eq hn'] at hk
    exact viewC_congr hk
theorem view2_congr {hg hg' : Nat → Option Blk} {x : AV} (hk : ∀ k ∈ reach hg 1 (refs2 x), hg k = hg' k) : view2 hg x = view2 hg' x := by
  by_cases hn : ∃ cs, x = .tup cs
  · obtain ⟨cs, rfl⟩ := hn
    simp only [view2]
    congr 1
    exact List.map_congr_left fun y hy => view1_congr fun k hkk => hk k (reach_sub 1 (fun j hj => by simp only [refs2, List.mem_flatMap]; exact ⟨y, hy, hj⟩) k hkk)
  · have hn' : ∀ cs, x ≠ .tup cs := fun cs e => hn ⟨cs, e⟩
    by_cases hu : ∃ j b want y, x = .gd j b want y
    · obtain ⟨j, b, want, y, rfl⟩ := hu
      rfl
    · have hu' : ∀ j b w y, x ≠ .gd j b w y := fun j b w y e => hu ⟨j, b, w, y, e⟩
      have e : ∀ hg, view2 hg x = view1 hg x := fun hg => by cases x <;> first | rfl | exact absurd rfl (hn' _)
      rw [e, e]
      rw [refs2_eq hn' hu'] at hk
      exact view1_congr hk
theorem made_congr {hg hg' : Nat → Option Blk} {dst : Option Tmp} (hk : ∀ d, dst = some d → hg d = hg' d) (f : Nat → AV) (b : Blk) : made hg dst f b = made hg' dst f b := by
  unfold made fresh
  cases dst with
  | none => rfl
  | some d => simp only [hk d rfl]
theorem rowsOf_congr {hg hg' : Nat → Option Blk} {x : AV} (hk : ∀ k ∈ refs2 x, hg k = hg' k) : rowsOf hg x = rowsOf hg' x := by
  cases x
  case own k => simp only [rowsOf]; rw [hk k (by simp [refs2, refs1, refsC, refs0])]
  case win k lo n => simp only [rowsOf]; rw [hk k (by simp [refs2, refs1, refsC, refs0])]
  all_goals rfl
theorem arrOK_congr {ti : TI} {y z : Blk} (e1 : y.box = z.box) (e2 : y.sz = z.sz) : arrOK ti y = arrOK ti z := by unfold arrOK; rw [e1, e2]
theorem freshAll_congr {hg hg' : Nat → Option Blk} {d : Nat} (hk : ∀ k ∈ callKeys d, hg k = hg' k) : ∀ H : Heap, freshAll hg d H = freshAll hg' d H
  | [] => rfl
  | p :: r => by
    simp only [freshAll]
    cases h4 : Nat.blt p.1 4
    · rfl
    · have : p.1 < 4 := by simpa using h4
      have : hg (renK d p.1) = hg' (renK d p.1) := hk _ (by
        unfold callKeys
        rcases p with ⟨q, x⟩
        simp only at this ⊢
        rcases q with _ | _ | _ | _ | q <;> simp
        omega)
      simp only [this, freshAll_congr hk r]
theorem eff_congr {ρ ρ' : Operand → AV} {hg hg' : Nat → Option Blk} (hρ : ∀ x ∈ o.op.operands, ρ x = ρ' x) (hk : ∀ k ∈ keysOf hg ρ o, hg k = hg' k) (hsh : shOp o.op = true → ∀ x ∈ o.op.operands, ∀ k ∈ refs2 (ρ x), (hg k).map Blk.shape = (hg' k).map Blk.shape) : eff E ρ hg o = eff E ρ' hg' o := by
  have hdst : ∀ d, o.dst = some d → hg d = hg' d := fun d hd => hk d (by simp [keysOf, dstKeys, hd])
  have hcall : ∀ d, o.dst = some d → ∀ k ∈ callKeys d, hg k = hg' k := fun d hd k hkk => hk k (by simp [keysOf, dstKeys, hd, hkk])
  have hop : memOp o.op = true → ∀ x ∈ o.op.operands, ∀ k ∈ refs2 (ρ x), hg k = hg' k := fun hm x hx k hkk => hk k (by
    simp only [keysOf, List.mem_append, hm]; exact .inr (mem_reach 1 (List.mem_flatMap.2 ⟨x, by simpa using hx, hkk⟩)))
  have hop1 : memOp o.op = true → ∀ x ∈ o.op.operands, ∀ k ∈ reach hg 1 (refs2 (ρ x)), hg k = hg' k := fun hm x hx k hkk => hk k (by
    simp only [keysOf, List.mem_append, hm]; exact .inr (reach_sub 1 (fun j hj => List.mem_flatMap.2 ⟨x, by simpa using hx, hj⟩) k hkk))
  unfold eff
  cases ho : o.op <;> rw [ho] at hρ hop hop1 hsh <;> simp only [] <;> first | rfl | skip
  case move x => rw [hρ x (by simp [Op.operands])]
  case assign x =>
    have hf : fresh hg o.dst = fresh hg' o.dst := by
      unfold fresh
      cases hd : o.dst with
      | none => rfl
      | some d => simp only []; rw [hdst d hd]
    rw [hρ x (by simp [Op.operands])]; simp only [made_congr hdst, hf]
  case pick c x y =>
    rw [hρ x (by simp [Op.operands]), hρ y (by simp [Op.operands])]
    cases c <;> first | rfl | skip
    rename_i c
    simp only [hρ (.tmp c) (by simp [Op.operands])]
  case binOp op t x y t2 => rw [hρ x (by simp [Op.operands]), hρ y (by simp [Op.operands])]
  case unOp op t x => rw [hρ x (by simp [Op.operands])]
  case convert t0 t x => rw [hρ x (by simp [Op.operands])]
  case extract x i => rw [hρ x (by simp [Op.operands])]
  case field s x f => rw [hρ x (by simp [Op.operands])]
  case nilCheck x => rw [hρ x (by simp [Op.operands])]
  case fieldAddr s x f => rw [hρ x (by simp [Op.operands])]
  case index t x i => rw [hρ x (by simp [Op.operands]), hρ i (by simp [Op.operands])]
  case alloc t => simp only [made_congr hdst]
  case box t x => rw [hρ x (by simp [Op.operands])]; simp only [made_congr hdst]
  case build t parts =>
    have : ∀ (ti : TI) (l : List (Nat × Operand)) (cs : List AV), (∀ p ∈ l, ρ p.2 = ρ' p.2) → fillS ti ρ l cs = fillS ti ρ' l cs := by
      intro ti l
      induction l with
      | nil => exact fun cs _ => rfl
      | cons p l ih =>
        intro cs hl
        obtain ⟨f, x⟩ := p
        simp only [fillS, hl (f, x) (by simp), ih _ fun q hq => hl q (by simp [hq])]
    have hl : ∀ p ∈ parts.toList, ρ p.2 = ρ' p.2 := fun p hp => hρ p.2 (by simp [Op.operands]; exact ⟨p.1, by simpa using hp⟩)
    have e1 : parts.toList.all (fun p => solid (ρ p.2)) = parts.toList.all (fun p => solid (ρ' p.2)) := by
      rw [Bool.eq_iff_iff, List.all_eq_true, List.all_eq_true]
      exact ⟨fun hh p hp => by rw [← hl p hp]; exact hh p hp, fun hh p hp => by rw [hl p hp]; exact hh p hp⟩
    have e2 : (parts.toList.map fun p => cellsOf (ρ p.2)) = parts.toList.map fun p => cellsOf (ρ' p.2) := List.map_congr_left fun p hp => by rw [hl p hp]
    have e3 : (parts.toList.flatMap fun p => cellsOf (ρ p.2)) = parts.toList.flatMap fun p => cellsOf (ρ' p.2) := by rw [List.flatMap_def, List.flatMap_def, e2]
    simp only [this _ parts.toList _ hl, e1, e2, e3]
  case buildSlice t n parts =>
    have hl : ∀ p ∈ parts.toList, ρ p.2 = ρ' p.2 := fun p hp => hρ p.2 (by simp [Op.operands]; exact ⟨p.1, by simpa using hp⟩)
    have e1 : parts.toList.all (fun p => solid (ρ p.2)) = parts.toList.all (fun p => solid (ρ' p.2)) := by
      rw [Bool.eq_iff_iff, List.all_eq_true, List.all_eq_true]
      exact ⟨fun hh p hp => by rw [← hl p hp]; exact hh p hp, fun hh p hp => by rw [hl p hp]; exact hh p hp⟩
    have e2 : (parts.toList.map fun p => cellsOf (ρ p.2)) = parts.toList.map fun p => cellsOf (ρ' p.2) := List.map_congr_left fun p hp => by rw [hl p hp]
    have e3 : (parts.toList.map fun p => (cellsOf (ρ p.2)).map pure0) = parts.toList.map fun p => (cellsOf (ρ' p.2)).map pure0 := List.map_congr_left fun p hp => by rw [hl p hp]
    simp only [e1, e2, e3, made_congr hdst]
  case makeSlice t x y =>
    rw [hρ x (by simp [Op.operands]), hρ y (by simp [Op.operands])]
    simp only [makeK, made_congr hdst]
  case load t x =>
    have e := hop rfl x (by simp [Op.operands])
    rw [hρ x (by simp [Op.operands])] at e ⊢
    have : ∀ ti, loadK E hg ti (ρ' x) = loadK E hg' ti (ρ' x) := fun ti => by
      cases hx : ρ' x <;> simp only [loadK]
      rw [hx] at e
      rw [e _ (by simp [refs2, refs1, refsC, refs0])]
    simp only [this]
  case store t x y =>
    have e := hop rfl x (by simp [Op.operands])
    rw [hρ y (by simp [Op.operands])]
    rw [hρ x (by simp [Op.operands])] at e ⊢
    have : ∀ ti, storeK E hg ti (ρ' y) (ρ' x) = storeK E hg' ti (ρ' y) (ρ' x) := fun ti => by
      cases hx : ρ' x <;> simp only [storeK]
      rw [hx] at e
      rw [e _ (by simp [refs2, refs1, refsC, refs0])]
    simp only [this]
  case slice t x lo hi mx =>
    have ho : ∀ q : Option Operand, (∀ y, q = some y → ρ y = ρ' y) → optA ρ q = optA ρ' q := fun q hq => by cases q <;> simp [optA, hq]
    rw [hρ x (by simp [Op.operands]), ho lo fun y hy => hρ y (by simp [Op.operands, hy]), ho hi fun y hy => hρ y (by simp [Op.operands, hy]), ho mx fun y hy => hρ y (by simp [Op.operands, hy])]
    have e := hsh rfl x (by simp [Op.operands])
    rw [hρ x (by simp [Op.operands])] at e
    have wb : ∀ ti k, (hg k).map Blk.shape = (hg' k).map Blk.shape → winB hg ti k = winB hg' ti k := fun ti k e => by
      unfold winB
      cases h1 : hg k with
      | none =>
        cases h2 : hg' k with
        | none => rfl
        | some y => rw [h1, h2] at e; cases e
      | some y =>
        cases h2 : hg' k with
        | none => rw [h1, h2] at e; cases e
        | some z =>
          rw [h1, h2] at e
          simp only [Option.map_some, Option.some.injEq, Blk.shape, Prod.mk.injEq] at e
          obtain ⟨e1, e2, e3⟩ := e
          simp only [e1, e2, e3]
    have : ∀ ti l m, winK hg ti (ρ' x) l m = winK hg' ti (ρ' x) l m := fun ti l m => by
      unfold winK
      cases hx : ρ' x <;> simp only []
      all_goals
        rw [hx] at e
        rw [wb ti _ (e _ (by simp [refs2, refs1, refsC, refs0]))]
    have wa : ∀ ti l m, winA hg ti (ρ' x) l m = winA hg' ti (ρ' x) l m := fun ti l m => by
      cases hx : ρ' x with
      | ptr k i off =>
        have ek := e k (by rw [hx]; simp [refs2, refs1, refsC, refs0])
        clear e
        cases i <;> cases off <;> simp only [winA]
        cases h1 : hg k with
        | none =>
          cases h2 : hg' k with
          | none => rfl
          | some y => rw [h1, h2] at ek; cases ek
        | some y =>
          cases h2 : hg' k with
          | none => rw [h1, h2] at ek; cases ek
          | some z =>
            rw [h1, h2] at ek
            simp only [Option.map_some, Option.some.injEq, Blk.shape, Prod.mk.injEq] at ek
            obtain ⟨e1, e2, e3⟩ := ek
            simp only [arrOK_congr e1 e2, e3]
      | _ => rfl
    have wx : ∀ ti l m, winX hg ti (ρ' x) l m = winX hg' ti (ρ' x) l m := fun ti l m => by
      unfold winX
      rw [this, wa]
    simp only [wx]
  case indexAddr t x i =>
    have e := hsh rfl x (by simp [Op.operands])
    rw [hρ i (by simp [Op.operands])]
    rw [hρ x (by simp [Op.operands])] at e ⊢
    have : ∀ ti, indexK E hg ti (ρ' x) (ρ' i) = indexK E hg' ti (ρ' x) (ρ' i) := fun ti => by
      unfold indexK
      have key : ∀ (b : Nat) (F : Bool → Nat → Nat → T AV), (hg b).map Blk.shape = (hg' b).map Blk.shape → (match hg b with | some y => F y.box y.sz y.rows.length | none => .fail) = (match hg' b with | some y => F y.box y.sz y.rows.length | none => .fail) := by
        intro b F e
        cases h1 : hg b with
        | none =>
          cases h2 : hg' b with
          | none => rfl
          | some y => rw [h1, h2] at e; cases e
        | some y =>
          cases h2 : hg' b with
          | none => rw [h1, h2] at e; cases e
          | some z =>
            rw [h1, h2] at e
            simp only [Option.map_some, Option.some.injEq, Blk.shape, Prod.mk.injEq] at e
            obtain ⟨e1, e2, e3⟩ := e
            simp only [e1, e2, e3]
      cases hx : ρ' x <;> simp only []
      case own b =>
        rw [hx] at e
        have e := e b (by simp [refs2, refs1, refsC, refs0])
        cases intOfA (ρ' i) with
        | none => rfl
        | some n =>
          simp only []
          congr 1
          funext j
          exact key b (fun bx sz ln => match !bx && Nat.beq sz ti.esize with | true => .ifB (decide (j < ln)) (.ret (.ptr b j 0)) .fail | false => .fail) e
      case win b lo n =>
        rw [hx] at e
        have e := e b (by simp [refs2, refs1, refsC, refs0])
        cases intOfA (ρ' i) with
        | none => rfl
        | some m =>
          simp only []
          congr 1
          funext j
          exact key b (fun bx sz ln => match winOf bx sz ti.esize with | true => .ifB (decide (j < n)) (.ret (.ptr b (lo + j) 0)) .fail | false => .fail) e
    have ia : ∀ ti, indexA hg ti (ρ' x) (ρ' i) = indexA hg' ti (ρ' x) (ρ' i) := fun ti => by
      cases hx : ρ' x with
      | ptr k q off =>
        have ek := e k (by rw [hx]; simp [refs2, refs1, refsC, refs0])
        clear e
        cases q <;> cases off <;> simp only [indexA]
        cases h1 : hg k with
        | none =>
          cases h2 : hg' k with
          | none => rfl
          | some y => rw [h1, h2] at ek; cases ek
        | some y =>
          cases h2 : hg' k with
          | none => rw [h1, h2] at ek; cases ek
          | some z =>
            rw [h1, h2] at ek
            simp only [Option.map_some, Option.some.injEq, Blk.shape, Prod.mk.injEq] at ek
            obtain ⟨e1, e2, e3⟩ := ek
            simp only [arrOK_congr e1 e2]
      | _ => rfl
    simp only [this, ia]
  case makeFunc fn first captured =>
    have e : captured.toList.map ρ = captured.toList.map ρ' := List.map_congr_left fun x hx => hρ x (by simp only [Op.operands, Array.mem_append]; exact .inr (by simpa using hx))
    simp only [e]
  case call c =>
    have harg : ∀ x ∈ c.args.toList, ρ x = ρ' x := fun x hx => hρ x (by simp only [Op.operands, Call.operands, Array.mem_append]; exact .inr (by simpa using hx))
    have hargk : ∀ x ∈ c.args.toList, ∀ k ∈ refs2 (ρ x), hg k = hg' k := fun x hx => hop rfl x (by simp only [Op.operands, Call.operands, Array.mem_append]; exact .inr (by simpa using hx))
    cases hc : c.callee <;> simp only []
    case builtin b =>
      unfold builtinK
      cases b <;> simp only []
      case len =>
        split
        · rename_i x ty ha hts
          have hx : x ∈ c.args.toList := by rw [ha]; simp
          have e := hargk x hx
          rw [harg x hx] at e ⊢
          have : ∀ ti, lenK hg ti (ρ' x) = lenK hg' ti (ρ' x) := fun ti => by
            cases hxx : ρ' x
            case own j =>
              rw [hxx] at e
              simp only [lenK]
              rw [e _ (by simp [refs2, refs1, refsC, refs0])]
            case v y => cases y <;> rfl
            all_goals rfl
          simp only [this]
        · rfl
      case max =>
        split
        · rename_i x y ha
          rw [harg x (by rw [ha]; simp), harg y (by rw [ha]; simp)]
        · rfl
      case min =>
        split
        · rename_i x y ha
          rw [harg x (by rw [ha]; simp), harg y (by rw [ha]; simp)]
        · rfl
      case append =>
        split
        · rename_i x y ty ty' ha hts
          have hy : y ∈ c.args.toList := by rw [ha]; simp
          have e := hargk y hy
          rw [harg y hy] at e ⊢
          rw [harg x (by rw [ha]; simp)]
          simp only [app0, rowsOf_congr e, made_congr hdst]
        · rfl
      case clear =>
        split
        · rename_i x ty ha hts
          have hx : x ∈ c.args.toList := by rw [ha]; simp
          have e := hargk x hx
          rw [harg x hx] at e ⊢
          have : ∀ ti, clearK hg ti (ρ' x) = clearK hg' ti (ρ' x) := fun ti => by
            cases hxx : ρ' x
            case win j lo n =>
              rw [hxx] at e
              simp only [clearK]
              rw [e _ (by simp [refs2, refs1, refsC, refs0])]
            all_goals rfl
          simp only [this]
        · rfl
      case copy =>
        split
        · rename_i x y ty ty' ha hts
          have hx : x ∈ c.args.toList := by rw [ha]; simp
          have hy : y ∈ c.args.toList := by rw [ha]; simp
          have ex := hargk x hx
          have ey := hargk y hy
          rw [harg x hx] at ex ⊢
          rw [harg y hy] at ey ⊢
          have : ∀ ti, copyK hg ti (ρ' x) (ρ' y) = copyK hg' ti (ρ' x) (ρ' y) := fun ti => by
            unfold copyK
            rw [rowsOf_congr ey]
            cases hxx : ρ' x
            case own j =>
              have := ex j (by rw [hxx]; simp [refs2, refs1, refsC, refs0])
              simp only [copyTo, this]
              cases hg' j with
              | none => rfl
              | some b => simp only [this]
            case win j lo n =>
              have := ex j (by rw [hxx]; simp [refs2, refs1, refsC, refs0])
              simp only [copyTo, this]
            all_goals rfl
          simp only [this]
        · rfl
    case value f =>
      have hf : ρ f = ρ' f := hρ f (by simp [Op.operands, Call.operands, hc])
      have hfk := hop1 rfl f (by simp [Op.operands, Call.operands, hc])
      rw [hf] at hfk ⊢
      cases hff : ρ' f <;> simp only []
      rename_i fid cap
      rw [hff] at hfk
      have e0 : c.args.toList.map ρ = c.args.toList.map ρ' := List.map_congr_left harg
      cases hcap : cap.all capOK
      · rfl
      have e1 : (c.args.toList.map ρ' ++ cap).map (view2 hg) = (c.args.toList.map ρ' ++ cap).map (view2 hg') := by
        refine List.map_congr_left fun y hy => view2_congr fun k hkk => ?_
        rcases List.mem_append.1 hy with hy | hy
        · obtain ⟨x, hx, rfl⟩ := List.mem_map.1 hy
          rw [← harg x hx] at hkk
          exact hop1 rfl x (by simp only [Op.operands, Call.operands, Array.mem_append]; exact .inr (by simpa using hx)) k hkk
        · refine hfk k (reach_sub 1 (fun j hj => ?_) k hkk)
          simp only [refs2, refs1, refsC, List.mem_flatMap]
          refine ⟨y, hy, ?_⟩
          have := List.all_eq_true.1 hcap y hy
          cases y <;> first | exact hj | (simp [capOK] at this)
      simp only [e0]
      unfold callK
      rw [e1]
      cases hdd : o.dst with
      | none => rfl
      | some d => simp only [freshAll_congr (hcall d hdd)]
end

end

section

variable {P : Program} {E : Env}
section
variable {B : Nat → Prop} {N : Nat} {β0 : Nat → Option BI} {o : Oper} {a : Act} {w w' w0 : World} {S S' S0 : Nat → Prop} {β β' : Nat → Option BI} {h : Heap} {av : AV} {v : Value} {t : Tmps} {s s' s2 : St} {g : Option (Nat × Bool)} {ops : List Oper}
abbrev rdOf (ops : List Oper) (s : St) (o : Oper) : List Nat := rdN 2 ops s o
structure Agree (ops : List Oper) (o : Oper) (s s2 : St) : Prop where
  t : ∀ n ∈ tmpsOf ops o, getT s2.t n = getT s.t n
  h : ∀ k ∈ rdOf ops s o, mget s2.h k = mget s.h k
  sh : ∀ k ∈ shOf ops s o, (mget s2.h k).map Blk.shape = (mget s.h k).map Blk.shape
theorem tmp_mem {n : Nat} (hx : Operand.tmp n ∈ o.op.operands) : n ∈ tmpsOf ops o := by
  unfold tmpsOf
  rw [List.mem_append]
  refine .inl ?_
  rw [List.mem_flatMap]
  exact ⟨.tmp n, by simpa using hx, by simp⟩
theorem ev_refs {x : Operand} (hx : ∀ n, x ≠ .tmp n) : refs2 (ev E t x) = [] := by
  cases x
  case tmp n => exact absurd rfl (hx n)
  case const v =>
    simp only [ev]
    split
    · unfold ofConst
      split
      · rfl
      · rename_i cs
        simp only [refs2, refs1]
        rw [List.flatMap_eq_nil_iff]
        intro y hy
        obtain ⟨u, _, rfl⟩ := List.mem_map.1 hy
        rfl
      · rfl
    · rfl
  case global gl => simp only [ev]; split <;> rfl
  case func f => rfl
theorem ung_refs (x : AV) : ∀ k ∈ refs2 (ung g x), k ∈ refs2 x := by
  intro k hk
  unfold ung at hk
  split at hk
  · rename_i i b wt y
    split at hk
    · split at hk
      · unfold flatOnly at hk
        split at hk
        · simp [refs2, refs1, refsC, refs0] at hk
        · simp [refs2, refs1, refsC, refs0] at hk
        · rename_i h1 h2
          rw [refs2_eq h2 h1] at hk
          exact hk
      · exact hk
    · exact hk
  · exact hk
theorem ρ_agree (ag : Agree ops o s s2) : ∀ x ∈ o.op.operands, ρOf E g s.t x = ρOf E g s2.t x := by
  intro x hx
  unfold ρOf
  cases x with
  | tmp n => simp only [ev]; rw [ag.t n (tmp_mem hx)]
  | const v => rfl
  | global gl => rfl
  | func f => rfl
theorem mem_reach_up0 {hg : Nat → Option Blk} : ∀ (n : Nat) {ks : List Nat} {k : Nat}, k ∈ reach hg n ks → k ∈ reach hg (n + 1) ks
  | 0, ks, k, hk => mem_addK.2 (.inl hk)
  | n + 1, ks, k, hk => mem_reach_up0 n hk
theorem refs_tmps {x : Operand} (hx : x ∈ o.op.operands) {k : Nat} (hk : k ∈ refs2 (ρOf E g s.t x)) : k ∈ tmpRefs ops s o := by
  have hk := ung_refs _ k hk
  unfold tmpRefs
  rw [List.mem_flatMap]
  by_cases hn : ∃ n, x = .tmp n
  · obtain ⟨n, rfl⟩ := hn
    exact ⟨n, tmp_mem hx, hk⟩
  · rw [ev_refs fun n e => hn ⟨n, e⟩] at hk
    cases hk
theorem keys_rd : ∀ k ∈ keysOf (mget s.h) (ρOf E g s.t) o, k ∈ rdOf ops s o := by
  intro k hk
  simp only [keysOf, rdOf, rdN, List.mem_append] at hk ⊢
  rcases hk with hk | hk
  · exact .inl hk
  · refine .inr ?_
    cases hm : memOp o.op with
    | false => simp only [hm] at hk; cases hk
    | true =>
      simp only [hm] at hk ⊢
      have h1 := mem_reach_up0 1 hk
      refine reach_sub 2 (fun j hj => ?_) k h1
      rw [List.mem_flatMap] at hj
      obtain ⟨x, hx, hj⟩ := hj
      exact refs_tmps (by simpa using hx) hj
theorem eff_agree (ag : Agree ops o s s2) : eff E (ρOf E g s.t) (mget s.h) o = eff E (ρOf E g s2.t) (mget s2.h) o :=
  eff_congr (ρ_agree ag) (fun k hk => (ag.h k (keys_rd k hk)).symm) fun hs x hx k hk => (ag.sh k (by unfold shOf; rw [hs]; exact refs_tmps hx hk)).symm
theorem flatMap_same {α γ : Type} {f g : α → List γ} {l : List α} (hh : ∀ x ∈ l, f x = g x) : l.flatMap f = l.flatMap g := by
  rw [List.flatMap_def, List.flatMap_def, List.map_congr_left hh]
theorem frz_congr {ρ ρ' : Operand → AV} (hρ : ∀ x ∈ o.op.operands, ρ x = ρ' x) : frz E ρ o.dst o.op = frz E ρ' o.dst o.op := by
  cases ho : o.op <;> rw [ho] at hρ
  case buildSlice t n parts =>
    have hl : ∀ p ∈ parts.toList, ρ p.2 = ρ' p.2 := fun p hp => hρ p.2 (by simp [Op.operands]; exact ⟨p.1, by simpa using hp⟩)
    have e2 : (parts.toList.map fun p => cellsOf (ρ p.2)) = parts.toList.map fun p => cellsOf (ρ' p.2) := List.map_congr_left fun p hp => by rw [hl p hp]
    have e3 : (parts.toList.flatMap fun p => refs2 (ρ p.2)) = parts.toList.flatMap fun p => refs2 (ρ' p.2) := flatMap_same fun p hp => by rw [hl p hp]
    simp only [frz, e2, e3]
  case slice t x lo hi mx =>
    cases mx
    · simp only [frz]; rw [hρ x (by simp [Op.operands])]
    · rfl
  case call c =>
    obtain ⟨callee, args, ts⟩ := c
    cases callee
    case value f =>
      simp only [frz]
      rw [hρ f (by simp [Op.operands, Call.operands])]
      have e : args.toList.flatMap (fun x => refs2 (ρ x)) = args.toList.flatMap fun x => refs2 (ρ' x) := flatMap_same fun x hx => by rw [hρ x (by simp only [Op.operands, Call.operands, Array.mem_append]; exact .inr (by simpa using hx))]
      rw [e]
    all_goals rfl
  all_goals rfl
theorem frz_agree (ag : Agree ops o s s2) : frz E (ρOf E g s.t) o.dst o.op = frz E (ρOf E g s2.t) o.dst o.op := frz_congr (ρ_agree ag)
theorem inHeap_congr {hg hg' : Nat → Option Blk} {ks : List Nat} : ∀ {l : List Nat} {acc : Heap}, (∀ k ∈ l, hg' k = hg k) → inHeap hg' ks l acc = inHeap hg ks l acc
  | [], acc, _ => rfl
  | k :: l, acc, h => by
    simp only [inHeap]
    rw [h k (by simp)]
    split
    · exact inHeap_congr fun j hj => h j (by simp [hj])
    · exact inHeap_congr fun j hj => h j (by simp [hj])
theorem all_congr {α : Type} {f g : α → Bool} : ∀ {l : List α}, (∀ x ∈ l, f x = g x) → l.all f = l.all g
  | [], _ => rfl
  | x :: l, h => by simp only [List.all_cons]; rw [h x (by simp), all_congr fun y hy => h y (by simp [hy])]
theorem callH_congr {hg hg' : Nat → Option Blk} {dst : Option Tmp} {f : FuncId} {args : List AV} (h1 : ∀ k ∈ reach hg 2 (addK [] (args.flatMap refs2)), hg' k = hg k) (h2 : ∀ d, dst = some d → ∀ k ∈ callKeys d, hg' k = hg k) : callH E hg' dst f args = callH E hg dst f args := by
  unfold callH
  rw [reach_congr 2 h1]
  generalize reach hg 2 (addK [] (args.flatMap refs2)) = ks at h1
  unfold callH1
  have e1 : closedK hg' ks = closedK hg ks := all_congr fun k hk => by rw [h1 k hk]
  have e2 : inHeap hg' ks ks [] = inHeap hg ks ks [] := inHeap_congr h1
  rw [e1, e2]
  have e3 : ∀ d nw p, (nw = true → dst = some d) → callOut E hg' ks d nw p = callOut E hg ks d nw p := by
    intro d nw p hd
    unfold callOut
    have : outFits E hg' ks d nw p.2.1 p.2.2 = outFits E hg ks d nw p.2.1 p.2.2 := by
      unfold outFits
      congr 3
      congr 1
      refine all_congr fun q hq => ?_
      split
      · rfl
      · cases nw with
        | false => rfl
        | true =>
          simp only [Bool.true_and]
          cases h4 : Nat.blt q.1 4 with
          | false => rfl
          | true =>
            have h4 : q.1 < 4 := by simpa using h4
            rw [h2 d (hd rfl) (renK d q.1) (by
              unfold callKeys
              rcases q with ⟨q, x⟩
              simp only at h4 ⊢
              rcases q with _ | _ | _ | _ | q <;> simp
              omega)]
    rw [this]
  cases dst with
  | none => simp only [e3 0 false _ (fun h => by cases h)]
  | some d => simp only [e3 d true _ (fun _ => rfl)]
theorem hcall_congr {ρ ρ' : Operand → AV} (hρ : ∀ x ∈ o.op.operands, ρ x = ρ' x) : hcallOf E ρ o.op = hcallOf E ρ' o.op := by
  cases ho : o.op <;> rw [ho] at hρ <;> try rfl
  rename_i c
  obtain ⟨callee, args, ts⟩ := c
  cases callee
  case value f =>
    simp only [hcallOf]
    rw [hρ f (by simp [Op.operands, Call.operands])]
    have e : args.toList.map ρ = args.toList.map ρ' := List.map_congr_left fun x hx => hρ x (by simp only [Op.operands, Call.operands, Array.mem_append]; exact .inr (by simpa using hx))
    rw [e]
  all_goals rfl
theorem hcall_agree (ag : Agree ops o s s2) {f : FuncId} {args : List AV} (hc : hcallOf E (ρOf E g s.t) o.op = some (f, args)) : callH E (mget s2.h) o.dst f args = callH E (mget s.h) o.dst f args := by
  obtain ⟨c, fo, caps, c1, c2, c3, c4⟩ := hcallOf_some hc
  refine callH_congr (fun k hk => ag.h k ?_) fun d hd k hk => ag.h k ?_
  · simp only [rdOf, rdN, List.mem_append, show memOp o.op = true by rw [c1]; rfl]
    refine .inr (reach_sub 2 (fun j hj => ?_) k hk)
    rcases mem_addK.1 hj with hj | hj
    · simp at hj
    · obtain ⟨x, hx, hj⟩ := List.mem_flatMap.1 hj
      rw [c4, List.mem_append] at hx
      rcases hx with hx | hx
      · obtain ⟨y, hy, rfl⟩ := List.mem_map.1 hx
        exact refs_tmps (E := E) (g := g) (x := y) (by rw [c1]; simp only [Op.operands, Call.operands, Array.mem_append]; exact .inr (by simpa using hy)) hj
      · refine refs_tmps (E := E) (g := g) (x := fo) (by rw [c1]; obtain ⟨ce, ca, ct⟩ := c; simp only at c2; subst c2; simp [Op.operands, Call.operands]) ?_
        rw [c3]
        show j ∈ caps.flatMap refs0
        rw [List.mem_flatMap]
        have hcp : caps.all capOK = true := by
          unfold hcallOf at hc
          rw [c1] at hc
          simp only [c2, c3] at hc
          split at hc
          · rename_i hh
            simp only [Bool.and_eq_true] at hh
            exact hh.2
          · cases hc
        have := List.all_eq_true.1 hcp x hx
        refine ⟨x, hx, ?_⟩
        cases x <;> first | exact hj | (simp [capOK] at this)
  · simp only [rdOf, rdN, hd, List.mem_append]
    exact .inl (List.mem_cons_of_mem _ hk)
theorem appOwn_agree (ag : Agree ops o s s2) (hm : memOp o.op = true) {x y : Operand} {ty : TypeId} {j : Nat} (hx : x ∈ o.op.operands) (hy : y ∈ o.op.operands) (hj : ownOf (ρOf E g s.t x) = some j) : appOwn E (mget s2.h) ty j (ρOf E g s2.t y) = appOwn E (mget s.h) ty j (ρOf E g s.t y) := by
  have e1 := ρ_agree (E := E) (g := g) ag y hy
  have hj' : ρOf E g s.t x = .own j := by unfold ownOf at hj; split at hj <;> first | (cases hj; assumption) | (cases hj)
  have e2 : mget s2.h j = mget s.h j := ag.h j (by
    simp only [rdOf, rdN, List.mem_append, hm]
    exact .inr (mem_reach 2 (refs_tmps (E := E) (g := g) hx (by rw [hj']; simp [refs2, refs1, refsC, refs0]))))
  have e3 : rowsOf (mget s2.h) (ρOf E g s.t y) = rowsOf (mget s.h) (ρOf E g s.t y) := rowsOf_congr fun k hk => ag.h k (by
    simp only [rdOf, rdN, List.mem_append, hm]
    exact .inr (mem_reach 2 (refs_tmps (E := E) (g := g) hy hk)))
  unfold appOwn
  rw [← e1, e2, e3]
theorem killA_nil (x : AV) : killA [] x = x := by
  unfold killA
  have : ((refs2 x).any fun k => List.elem k []) = false := by rw [List.any_eq_false]; intro k _; simp
  rw [this]
theorem blk_kill_nil (b : Blk) : b.kill [] = b := by
  unfold Blk.kill
  split
  · obtain ⟨bx, ty, sz, rows⟩ := b
    have : (rows.map fun r => r.map (killA [])) = rows := by
      have e : (killA []) = id := funext killA_nil
      rw [e]
      simp
    simp only [this]
  · rfl
theorem kill_nil (s : St) : s.kill [] = s := by
  obtain ⟨t, h⟩ := s
  unfold St.kill
  have e1 : (t.map fun p => (p.1, killA [] p.2)) = t := by
    have : (fun p : Nat × AV => (p.1, killA [] p.2)) = id := funext fun p => by rw [killA_nil]; rfl
    rw [this]; simp
  have e2 : (h.map fun p => (p.1, p.2.kill [])) = h := by
    have : (fun p : Nat × Blk => (p.1, p.2.kill [])) = id := funext fun p => by rw [blk_kill_nil]; rfl
    rw [this]; simp
  simp only [e1, e2]
theorem putK_nil (s : St) (dst : Option Tmp) (av : AV) (ws : Heap) : putK s dst av ws [] = ⟨setD s.t dst av, msets s.h ws⟩ := by
  unfold putK; rw [kill_nil]
def Framed (ops : List Oper) (s : St) (o : Oper) (s' : St) (wk : List Nat × List Nat) (st : St → T (St × Option (List Nat × List Nat))) : Prop :=
  ∃ av ws ks, s' = putK s o.dst av ws ks ∧ wk = (ws.map (·.1), ks) ∧ (∀ j b want x, av = .gd j b want x → j ∈ tmpsOf ops o) ∧ ∀ s2, Agree ops o s s2 → (st s2).val = some (putK s2 o.dst av ws ks, some wk)
theorem norm_frame {wk : List Nat} (hn : (norm E g s o).val = some (s', wk)) : ∃ av ws, s' = putK s o.dst av ws [] ∧ wk = ws.map (·.1) ∧ (∀ j b want x, av ≠ .gd j b want x) ∧ ∀ s2, Agree ops o s s2 → (norm E g s2 o).val = some (putK s2 o.dst av ws [], wk) := by
  unfold norm at hn
  rw [T.bind_some] at hn
  obtain ⟨p, hp, hn⟩ := hn
  rw [T.ret_some] at hn
  cases hn
  refine ⟨noGd p.1, p.2, (putK_nil _ _ _ _).symm, rfl, (fun j b want x hx => noGd_ne hx), fun s2 ag => ?_⟩
  unfold norm
  rw [T.bind_some]
  exact ⟨p, by rw [← eff_agree ag]; exact hp, by rw [putK_nil]; rfl⟩
theorem kfin_frame {p : AV × Heap × List Nat} {wk : List Nat × List Nat} (hn : (kfin E s o.dst p).val = some (s', some wk)) : s' = putK s o.dst (noGd p.1) p.2.1 p.2.2 ∧ wk = (p.2.1.map (·.1), p.2.2) ∧ ∀ s2 : St, (kfin E s2 o.dst p).val = some (putK s2 o.dst (noGd p.1) p.2.1 p.2.2, some wk) := by
  unfold kfin at hn
  split at hn
  · rename_i hm
    rw [T.ret_some] at hn
    cases hn
    refine ⟨rfl, rfl, fun s2 => ?_⟩
    unfold kfin
    rw [hm]
    rfl
  · rw [T.fail_some] at hn; exact hn.elim
theorem step1_frame {wk : List Nat × List Nat} (hn : (step1 E g s o).val = some (s', some wk)) : Framed ops s o s' wk fun s2 => step1 E g s2 o := by
  have nrm : ((norm E g s o).bind wrS).val = some (s', some wk) → Framed ops s o s' wk fun s2 => (norm E g s2 o).bind wrS := by
    intro hq
    rw [T.bind_some] at hq
    obtain ⟨⟨s1, ws⟩, h1, h2⟩ := hq
    rw [show wrS (s1, ws) = .ret (s1, some (ws, [])) from rfl, T.ret_some] at h2
    cases h2
    obtain ⟨av, ws', e1, e2, e0, e3⟩ := norm_frame (ops := ops) h1
    exact ⟨av, ws', [], e1, by rw [e2], fun j b want x hx => absurd hx (e0 j b want x), fun s2 ag => by rw [T.bind_some]; exact ⟨_, e3 s2 ag, rfl⟩⟩
  unfold step1 at hn
  split at hn
  · rename_i x y ty hi
    have ho := isApp_some hi
    have hx : x ∈ o.op.operands := by rw [ho]; simp [Op.operands, Call.operands]
    have hy : y ∈ o.op.operands := by rw [ho]; simp [Op.operands, Call.operands]
    split at hn
    · rename_i j hj
      rw [T.bind_some] at hn
      obtain ⟨p, h1, h2⟩ := hn
      obtain ⟨k1, k2, k3⟩ := kfin_frame h2
      refine ⟨noGd p.1, p.2.1, p.2.2, k1, k2, (fun j b want x hx => absurd hx noGd_ne), fun s2 ag => ?_⟩
      show (step1 E g s2 o).val = _
      unfold step1
      simp only [hi]
      rw [← ρ_agree ag x hx]
      simp only [hj]
      rw [T.bind_some]
      exact ⟨p, by rw [appOwn_agree ag (by rw [ho]; rfl) hx hy hj]; exact h1, k3 s2⟩
    · rename_i hno
      obtain ⟨av, ws, ks, e1, e2, e0, e3⟩ := nrm hn
      refine ⟨av, ws, ks, e1, e2, e0, fun s2 ag => ?_⟩
      show (step1 E g s2 o).val = _
      unfold step1
      simp only [hi]
      rw [← ρ_agree ag x hx]
      simp only [hno]
      exact e3 s2 ag
  · rename_i hi
    split at hn
    · rename_i f args hc
      rw [T.bind_some] at hn
      obtain ⟨p, h1, h2⟩ := hn
      obtain ⟨k1, k2, k3⟩ := kfin_frame h2
      refine ⟨noGd p.1, p.2.1, p.2.2, k1, k2, (fun j b want x hx => absurd hx noGd_ne), fun s2 ag => ?_⟩
      show (step1 E g s2 o).val = _
      unfold step1
      simp only [hi]
      rw [← hcall_congr (ρ_agree ag)]
      simp only [hc]
      rw [T.bind_some]
      exact ⟨p, by rw [hcall_agree ag hc]; exact h1, k3 s2⟩
    · rename_i hc
      split at hn
      · rename_i hf
        obtain ⟨av, ws, ks, e1, e2, e0, e3⟩ := nrm hn
        refine ⟨av, ws, ks, e1, e2, e0, fun s2 ag => ?_⟩
        show (step1 E g s2 o).val = _
        unfold step1
        simp only [hi]
        rw [← hcall_congr (ρ_agree ag), ← frz_agree ag]
        simp only [hc, hf]
        exact e3 s2 ag
      · split at hn
        · rw [T.bind_some] at hn
          obtain ⟨⟨s1, ws⟩, h1, h2⟩ := hn
          rw [show wrA (s1, ws) = .ret (s1, none) from rfl, T.ret_some] at h2
          cases h2
        · rw [T.fail_some] at hn; exact hn.elim
theorem skip_frame {d : Nat} {want : Bool} {wk : List Nat × List Nat} (hd : d ∈ tmpsOf ops o) (hn : (skipO s o d want).val = some (s', some wk)) : Framed ops s o s' wk fun s2 => skipO s2 o d want := by
  rw [show skipO s o d want = .ret (⟨setD s.t o.dst (skipV o s.t d want), s.h⟩, some ([], [])) from rfl, T.ret_some] at hn
  cases hn
  refine ⟨skipV o s.t d want, [], [], by rw [putK_nil]; rfl, rfl, (fun j b want' x hx => ?_), fun s2 ag => ?_⟩
  · unfold skipV at hx
    split at hx
    · cases hx; exact hd
    · cases hx
  · have : skipV o s2.t d want = skipV o s.t d want := by unfold skipV notDst; rw [ag.t d hd]
    rw [putK_nil]
    show (skipO s2 o d want).val = _
    unfold skipO
    rw [this]; rfl
theorem safe_agree {d : Nat} {want : Bool} (hd : d ∈ tmpsOf ops o) (ag : Agree ops o s s2) : safeAt E s2 o d want = safeAt E s o d want := by
  have h1 : notDst o s2.t d = notDst o s.t d := by unfold notDst; rw [ag.t d hd]
  have h2 : safeMem (ρOf E (some (d, want)) s2.t) (mget s2.h) o.op = safeMem (ρOf E (some (d, want)) s.t) (mget s.h) o.op := by
    cases ho : o.op <;> try rfl
    rename_i t x
    have hx : x ∈ o.op.operands := by rw [ho]; simp [Op.operands]
    simp only [safeMem]
    rw [← ρ_agree ag x hx]
    cases hr : ρOf E (some (d, want)) s.t x <;> try rfl
    rename_i k i off
    simp only []
    rw [ag.h k (by
      simp only [rdOf, rdN, List.mem_append, show memOp o.op = true by rw [ho]; rfl]
      exact .inr (mem_reach 2 (refs_tmps (E := E) (g := some (d, want)) hx (by rw [hr]; simp [refs2, refs1, refsC, refs0]))))]
  unfold safeAt
  rw [h1, h2]
theorem guarded_frame {d : Nat} {b want : Bool} {wk : List Nat × List Nat} (hd : d ∈ tmpsOf ops o) (hn : (guarded E s o d b want).val = some (s', some wk)) : Framed ops s o s' wk fun s2 => guarded E s2 o d b want := by
  have hnd : ∀ s2, Agree ops o s s2 → safeAt E s2 o d want = safeAt E s o d want := fun s2 ag => safe_agree hd ag
  unfold guarded at hn
  split at hn
  · rename_i hs
    split at hn
    · rename_i p hp
      split at hn
      · rename_i hfl
        rw [T.ret_some] at hn
        cases hn
        refine ⟨.gd d b want p.1, [], [], by rw [putK_nil]; rfl, rfl, (fun j b want x hx => by cases hx; exact hd), fun s2 ag => ?_⟩
        show (guarded E s2 o d b want).val = _
        unfold guarded
        rw [hnd s2 ag, hs, ← eff_agree ag, hp, putK_nil]
        simp only [hfl]
        rfl
      · rw [T.fail_some] at hn; exact hn.elim
    · rename_i hp
      rw [T.ifB_some] at hn
      rcases hn with ⟨_, hn⟩ | ⟨hq, hn⟩
      · rw [T.fail_some] at hn; exact hn.elim
      · obtain ⟨av, ws, ks, e1, e2, e0, e3⟩ := skip_frame (ops := ops) hd hn
        refine ⟨av, ws, ks, e1, e2, e0, fun s2 ag => ?_⟩
        show (guarded E s2 o d b want).val = _
        unfold guarded
        rw [hnd s2 ag, hs, ← eff_agree ag, hp]
        simp only []
        rw [T.ifB_some]
        exact .inr ⟨hq, e3 s2 ag⟩
  · rename_i hs
    rw [T.ifB_some] at hn
    rcases hn with ⟨hq, hn⟩ | ⟨hq, hn⟩
    · obtain ⟨av, ws, ks, e1, e2, e0, e3⟩ := step1_frame (ops := ops) hn
      refine ⟨av, ws, ks, e1, e2, e0, fun s2 ag => ?_⟩
      show (guarded E s2 o d b want).val = _
      unfold guarded
      rw [hnd s2 ag, hs]
      simp only []
      rw [T.ifB_some]
      exact .inl ⟨hq, e3 s2 ag⟩
    · obtain ⟨av, ws, ks, e1, e2, e0, e3⟩ := skip_frame (ops := ops) hd hn
      refine ⟨av, ws, ks, e1, e2, e0, fun s2 ag => ?_⟩
      show (guarded E s2 o d b want).val = _
      unfold guarded
      rw [hnd s2 ag, hs]
      simp only []
      rw [T.ifB_some]
      exact .inr ⟨hq, e3 s2 ag⟩
theorem stepG_frame {wk : List Nat × List Nat} (hn : (stepG E ops s o).val = some (s', some wk)) : Framed ops s o s' wk fun s2 => stepG E ops s2 o := by
  unfold stepG at hn
  split at hn
  · rename_i hgu
    obtain ⟨av, ws, ks, e1, e2, e0, e3⟩ := step1_frame (ops := ops) hn
    exact ⟨av, ws, ks, e1, e2, e0, fun s2 ag => by show (stepG E ops s2 o).val = _; unfold stepG; simp only [hgu]; exact e3 s2 ag⟩
  · rename_i j want hgu
    split at hn
    · rename_i d hj
      have hd : d ∈ tmpsOf ops o := by unfold tmpsOf; simp [hgu, hj]
      split at hn
      · rename_i b hb
        obtain ⟨av, ws, ks, e1, e2, e0, e3⟩ := guarded_frame (ops := ops) hd hn
        exact ⟨av, ws, ks, e1, e2, e0, fun s2 ag => by show (stepG E ops s2 o).val = _; unfold stepG; simp only [hgu, hj]; rw [ag.t d hd, hb]; exact e3 s2 ag⟩
      · rename_i j' b' w' b hb
        obtain ⟨av, ws, ks, e1, e2, e0, e3⟩ := guarded_frame (ops := ops) hd hn
        exact ⟨av, ws, ks, e1, e2, e0, fun s2 ag => by show (stepG E ops s2 o).val = _; unfold stepG; simp only [hgu, hj]; rw [ag.t d hd, hb]; exact e3 s2 ag⟩
      · rename_i j' b' w' x hnb hb
        rw [T.ifB_some] at hn
        rcases hn with ⟨hq, hn⟩ | ⟨hq, hn⟩
        · rw [T.fail_some] at hn; exact hn.elim
        · obtain ⟨av, ws, ks, e1, e2, e0, e3⟩ := skip_frame (ops := ops) hd hn
          exact ⟨av, ws, ks, e1, e2, e0, fun s2 ag => by show (stepG E ops s2 o).val = _; unfold stepG; simp only [hgu, hj]; rw [ag.t d hd, hb]; simp only []; rw [T.ifB_some]; exact .inr ⟨hq, e3 s2 ag⟩⟩
      · rw [T.fail_some] at hn; exact hn.elim
    · rw [T.fail_some] at hn; exact hn.elim

structure Eqv (s s2 : St) : Prop where
  t : ∀ n, getT s2.t n = getT s.t n
  n : ∀ n, mget s2.t n = none ↔ mget s.t n = none
  h : ∀ k, mget s2.h k = mget s.h k
theorem Eqv.refl (s : St) : Eqv s s := ⟨fun _ => rfl, fun _ => Iff.rfl, fun _ => rfl⟩
theorem Eqv.symm (e : Eqv s s2) : Eqv s2 s := ⟨fun n => (e.t n).symm, fun n => (e.n n).symm, fun k => (e.h k).symm⟩
theorem Eqv.trans {s3 : St} (e : Eqv s s2) (f : Eqv s2 s3) : Eqv s s3 := ⟨fun n => (f.t n).trans (e.t n), fun n => (f.n n).trans (e.n n), fun k => (f.h k).trans (e.h k)⟩
theorem Eqv.agree (e : Eqv s s2) : Agree ops o s s2 := ⟨fun n _ => e.t n, fun k _ => e.h k, fun k _ => by rw [e.h k]⟩
theorem getT_undo_eq (t : Tmps) (d n : Nat) : getT (undo t d) n = match mget t d with | none => getT t n | some _ => unGd d (getT t n) := by
  unfold undo
  cases hd : mget t d with
  | none => rfl
  | some y => exact getT_map t (unGd d) rfl n
theorem eqv_set {t t2 : Tmps} (ht : ∀ n, getT t2 n = getT t n) (hn : ∀ n, mget t2 n = none ↔ mget t n = none) (dst : Option Tmp) (x : AV) : (∀ n, getT (setD t2 dst x) n = getT (setD t dst x) n) ∧ (∀ n, mget (setD t2 dst x) n = none ↔ mget (setD t dst x) n = none) := by
  cases dst with
  | none => exact ⟨ht, hn⟩
  | some d =>
    refine ⟨fun n => ?_, fun n => ?_⟩
    · simp only [setD, getT_mset]
      split
      · rfl
      · rw [getT_undo_eq, getT_undo_eq, ht n]
        have := hn d
        cases h1 : mget t2 d <;> cases h2 : mget t d <;> simp_all
    · simp only [setD, mget_mset]
      split
      · exact Iff.rfl
      · rw [mget_undo, mget_undo]; exact hn n
theorem eqv_kill (e : Eqv s s2) (ks : List Nat) : Eqv (s.kill ks) (s2.kill ks) := by
  refine ⟨fun n => ?_, fun n => ?_, fun k => ?_⟩
  · show getT (s2.t.map fun p => (p.1, killA ks p.2)) n = getT (s.t.map fun p => (p.1, killA ks p.2)) n
    rw [getT_map s2.t (killA ks) rfl, getT_map s.t (killA ks) rfl, e.t n]
  · show mget (s2.t.map fun p => (p.1, killA ks p.2)) n = none ↔ mget (s.t.map fun p => (p.1, killA ks p.2)) n = none
    rw [mget_map, mget_map]
    have := e.n n
    cases h1 : mget s2.t n <;> cases h2 : mget s.t n <;> simp_all
  · show mget (s2.h.map fun p => (p.1, p.2.kill ks)) k = mget (s.h.map fun p => (p.1, p.2.kill ks)) k
    rw [mget_map (fun b : Blk => b.kill ks), mget_map (fun b : Blk => b.kill ks), e.h k]
theorem eqv_put (e : Eqv s s2) (dst : Option Tmp) (x : AV) (ws : Heap) (ks : List Nat) : Eqv (putK s dst x ws ks) (putK s2 dst x ws ks) := by
  have e := eqv_kill e ks
  obtain ⟨h1, h2⟩ := eqv_set e.t e.n dst x
  exact ⟨h1, h2, fun k => by simp only [putK, mget_msets, e.h k]⟩
theorem eqv_freeze (e : Eqv s s2) (k : Nat) : Eqv (s.freeze k) (s2.freeze k) := by
  unfold St.freeze
  rw [e.h k]
  split
  · rename_i bl _
    split
    · exact e
    · refine ⟨fun n => ?_, fun n => ?_, fun q => ?_⟩
      · show getT (s2.t.map fun p => (p.1, frz2 k bl p.2)) n = getT (s.t.map fun p => (p.1, frz2 k bl p.2)) n
        rw [getT_map s2.t (frz2 k bl) rfl, getT_map s.t (frz2 k bl) rfl, e.t n]
      · show mget (s2.t.map fun p => (p.1, frz2 k bl p.2)) n = none ↔ mget (s.t.map fun p => (p.1, frz2 k bl p.2)) n = none
        rw [mget_map, mget_map]
        have := e.n n
        cases h1 : mget s2.t n <;> cases h2 : mget s.t n <;> simp_all
      · show mget ((s2.h.filter fun p => !Nat.beq p.1 k).map fun p => (p.1, p.2.frz k bl)) q = mget ((s.h.filter fun p => !Nat.beq p.1 k).map fun p => (p.1, p.2.frz k bl)) q
        rw [mget_map (fun c => Blk.frz k c bl), mget_map (fun c => Blk.frz k c bl), mget_filter (fun q => !Nat.beq q k), mget_filter (fun q => !Nat.beq q k), e.h q]
  · exact e
theorem eqv_freezes : ∀ (ks : List Nat) {s s2 : St}, Eqv s s2 → Eqv (s.freezes ks) (s2.freezes ks)
  | [], s, s2, e => e
  | k :: r, s, s2, e => eqv_freezes r (eqv_freeze e k)
theorem Rel.eqv (rel : Rel E B N w0 S0 β0 s a w S β) (e : Eqv s s2) : Rel E B N w0 S0 β0 s2 a w S β := by
  have inv := rel.inv
  refine ⟨⟨inv.base, inv.lt, inv.inj, inv.new, fun k x hx => ?_, fun k bl hk => inv.cov k bl (by rw [← e.h k]; exact hk), inv.glob⟩, fun n => by rw [e.t n]; exact rel.tok n, fun n j b want x hn => ?_, rel.below, rel.sub, rel.news, rel.fix, rel.size, rel.defers⟩
  · obtain ⟨bl, h1, h2, h3⟩ := inv.dom k x hx
    exact ⟨bl, by rw [e.h k]; exact h1, h2, h3⟩
  · rw [e.t n] at hn
    obtain ⟨h1, h2⟩ := rel.gd n j b want x hn
    exact ⟨fun hh => h1 ((e.n j).1 hh), h2⟩
theorem stepG_eqv0 {wk : List Nat × List Nat} (e : Eqv s s2) {st : St → T (St × Option (List Nat × List Nat))} (hf : Framed ops s o s' wk st) : ∃ s2', (st s2).val = some (s2', some wk) ∧ Eqv s' s2' := by
  obtain ⟨av, ws, ks, e1, e2, _, e3⟩ := hf
  exact ⟨_, e3 s2 e.agree, by rw [e1]; exact eqv_put e _ _ _ _⟩
theorem norm_eqv {ws : List Nat} (e : Eqv s s2) (hn : (norm E g s o).val = some (s', ws)) : ∃ s2', (norm E g s2 o).val = some (s2', ws) ∧ Eqv s' s2' := by
  obtain ⟨av, ws', e1, e2, _, e3⟩ := norm_frame (ops := [o]) hn
  exact ⟨_, e3 s2 e.agree, by rw [e1]; exact eqv_put e _ _ _ _⟩
theorem step1_none (e : Eqv s s2) (hn : (step1 E g s o).val = some (s', none)) : ∃ s2', (step1 E g s2 o).val = some (s2', none) ∧ Eqv s' s2' := by
  have hρ : ∀ x, ρOf E g s2.t x = ρOf E g s.t x := fun x => by
    unfold ρOf
    cases x with
    | tmp n => simp only [ev]; rw [e.t n]
    | const v => rfl
    | global gl => rfl
    | func f => rfl
  have hρ' : ρOf E g s2.t = ρOf E g s.t := funext hρ
  have kn : ∀ {s : St} {p : AV × Heap × List Nat}, (kfin E s o.dst p).val = some (s', none) → False := by
    intro s p hk
    unfold kfin at hk
    split at hk
    · rw [T.ret_some] at hk; cases hk
    · rw [T.fail_some] at hk; exact hk
  have nn : ((norm E g s o).bind wrS).val = some (s', none) → False := by
    intro hq
    rw [T.bind_some] at hq
    obtain ⟨⟨s1, ws⟩, h1, h2⟩ := hq
    rw [show wrS (s1, ws) = .ret (s1, some (ws, [])) from rfl, T.ret_some] at h2
    cases h2
  unfold step1 at hn ⊢
  rw [hρ']
  cases hi : isApp o.op with
  | some q =>
    obtain ⟨qx, qy, qt⟩ := q
    simp only [hi] at hn
    cases hj : ownOf (ρOf E g s.t qx) with
    | some jj =>
      simp only [hj] at hn
      rw [T.bind_some] at hn
      obtain ⟨p, _, h2⟩ := hn
      exact (kn h2).elim
    | none =>
      simp only [hj] at hn
      exact (nn hn).elim
  | none =>
    simp only [hi] at hn ⊢
    cases hc : hcallOf E (ρOf E g s.t) o.op with
    | some q =>
      simp only [hc] at hn
      rw [T.bind_some] at hn
      obtain ⟨p, _, h2⟩ := hn
      exact (kn h2).elim
    | none =>
      simp only [hc] at hn ⊢
      cases hf : frz E (ρOf E g s.t) o.dst o.op with
      | nil =>
        simp only [hf] at hn
        exact (nn hn).elim
      | cons kk kr =>
        simp only [hf] at hn ⊢
        split at hn
        · rename_i hpl
          rw [T.bind_some] at hn
          obtain ⟨⟨s1, ws⟩, h1, h2⟩ := hn
          obtain ⟨s2', h3, h4⟩ := norm_eqv (eqv_freezes _ e) h1
          rw [show wrA (s1, ws) = .ret (s1, none) from rfl, T.ret_some] at h2
          cases h2
          refine ⟨s2', ?_, h4⟩
          have hpl2 : plainG s2.t g = true := by unfold plainG at hpl ⊢; split <;> simp_all [e.t]
          rw [hpl2]
          simp only [T.bind_some]
          exact ⟨_, h3, rfl⟩
        · rw [T.fail_some] at hn; exact hn.elim
theorem stepG_eqv {wr : Option (List Nat × List Nat)} (e : Eqv s s2) (hn : (stepG E ops s o).val = some (s', wr)) : ∃ s2', (stepG E ops s2 o).val = some (s2', wr) ∧ Eqv s' s2' := by
  cases wr with
  | some wk => exact stepG_eqv0 e (stepG_frame hn)
  | none =>
    have sk : ∀ {d want}, (skipO s o d want).val = some (s', none) → False := by
      intro d want hk
      rw [show skipO s o d want = .ret (⟨setD s.t o.dst (skipV o s.t d want), s.h⟩, some ([], [])) from rfl, T.ret_some] at hk
      cases hk
    have gd : ∀ {d b want}, (guarded E s o d b want).val = some (s', none) → ∃ s2', (guarded E s2 o d b want).val = some (s2', none) ∧ Eqv s' s2' := by
      intro d b want hn
      unfold guarded at hn ⊢
      have hnd : safeAt E s2 o d want = safeAt E s o d want := by
        have h1 : notDst o s2.t d = notDst o s.t d := by unfold notDst; rw [e.t d]
        have h3 : ρOf E (some (d, want)) s2.t = ρOf E (some (d, want)) s.t := funext fun x => by
          unfold ρOf
          cases x with
          | tmp n => simp only [ev]; rw [e.t n]
          | const v => rfl
          | global gl => rfl
          | func f => rfl
        have h4 : mget s2.h = mget s.h := funext e.h
        unfold safeAt
        rw [h1, h3, h4]
      rw [hnd]
      cases hs : safeAt E s o d want with
      | true =>
        simp only [hs] at hn
        split at hn
        · split at hn
          · rw [T.ret_some] at hn; cases hn
          · rw [T.fail_some] at hn; exact hn.elim
        · rw [T.ifB_some] at hn
          rcases hn with ⟨_, hn⟩ | ⟨hq, hn⟩
          · rw [T.fail_some] at hn; exact hn.elim
          · exact (sk hn).elim
      | false =>
        simp only [hs] at hn ⊢
        rw [T.ifB_some] at hn
        rcases hn with ⟨hq, hn⟩ | ⟨hq, hn⟩
        · obtain ⟨s2', h1, h2⟩ := step1_none e hn
          exact ⟨s2', by rw [T.ifB_some]; exact .inl ⟨hq, h1⟩, h2⟩
        · exact (sk hn).elim
    unfold stepG at hn ⊢
    cases hgu : o.guard with
    | none =>
      simp only [hgu] at hn ⊢
      exact step1_none e hn
    | some q =>
      obtain ⟨j, want⟩ := q
      simp only [hgu] at hn ⊢
      cases hj : dstOf ops j with
      | none => simp only [hj] at hn; rw [T.fail_some] at hn; exact hn.elim
      | some d =>
        simp only [hj] at hn ⊢
        rw [e.t d]
        split at hn
        · exact gd hn
        · exact gd hn
        · rw [T.ifB_some] at hn
          rcases hn with ⟨hq, hn⟩ | ⟨hq, hn⟩
          · rw [T.fail_some] at hn; exact hn.elim
          · exact (sk hn).elim
        · rw [T.fail_some] at hn; exact hn.elim
theorem killA_eq {ks : List Nat} {x : AV} (hh : hits ks x = false) : killA ks x = x := by
  unfold killA
  unfold hits at hh
  rw [hh]
theorem hits_apart {ks : List Nat} {x : AV} (hh : ∀ k ∈ refs2 x, k ∉ ks) : hits ks x = false := by
  unfold hits
  rw [List.any_eq_false]
  intro k hk
  simpa using hh k hk
theorem hitsB_apart {ks : List Nat} {b : Blk} (hh : ∀ k ∈ blkRefs b, k ∉ ks) : hitsB ks b = false := by
  unfold hitsB
  rw [List.any_eq_false]
  intro k hk
  simpa using hh k hk
theorem hits_nil (x : AV) : hits [] x = false := hits_apart (fun k _ => by simp)
theorem hitsB_nil (b : Blk) : hitsB [] b = false := hitsB_apart (fun k _ => by simp)
theorem hits_mem {ks : List Nat} {x : AV} (hh : hits ks x = true) : ∃ k ∈ refs2 x, k ∈ ks := by
  unfold hits at hh
  rw [List.any_eq_true] at hh
  obtain ⟨k, h1, h2⟩ := hh
  exact ⟨k, h1, by simpa using h2⟩
theorem hitsB_mem {ks : List Nat} {b : Blk} (hh : hitsB ks b = true) : ∃ k ∈ blkRefs b, k ∈ ks := by
  unfold hitsB at hh
  rw [List.any_eq_true] at hh
  obtain ⟨k, h1, h2⟩ := hh
  exact ⟨k, h1, by simpa using h2⟩
theorem killB_eq {ks : List Nat} {b : Blk} (hh : hitsB ks b = false) : b.kill ks = b := by
  unfold Blk.kill
  split
  · rename_i hb
    obtain ⟨bx, ty, sz, rows⟩ := b
    simp only at hb
    subst hb
    have : (rows.map fun r => r.map (killA ks)) = rows := by
      have e : ∀ r ∈ rows, r.map (killA ks) = r := by
        intro r hr
        refine map_same fun y hy => killA_eq (hits_apart fun k hk => ?_)
        unfold hitsB at hh
        have := List.any_eq_false.1 hh k (by unfold blkRefs; simp only [List.mem_flatMap]; exact ⟨r, hr, y, hy, hk⟩)
        simpa using this
      rw [List.map_congr_left (g := id) e]
      simp
    simp only [this]
  · rfl
theorem refs_kill {ks : List Nat} {x : AV} {k : Nat} (hk : k ∈ refs2 (killA ks x)) : k ∈ refs2 x := by
  unfold killA at hk
  split at hk
  · simp [refs2, refs1, refsC, refs0] at hk
  · exact hk
theorem blkRefs_kill {ks : List Nat} {b : Blk} {k : Nat} (hk : k ∈ blkRefs (b.kill ks)) : k ∈ blkRefs b := by
  unfold Blk.kill at hk
  split at hk
  · rename_i hb
    unfold blkRefs at hk ⊢
    rw [hb] at hk ⊢
    simp only [List.mem_flatMap, List.mem_map] at hk ⊢
    obtain ⟨r, ⟨r0, hr0, rfl⟩, y, hy, hk⟩ := hk
    obtain ⟨y0, hy0, rfl⟩ := List.mem_map.1 hy
    exact ⟨r0, hr0, y0, hy0, refs_kill hk⟩
  · exact hk
theorem hits_kill {ks ks' : List Nat} {x : AV} (hh : hits ks (killA ks' x) = true) : killA ks' x = x := by
  unfold killA at hh ⊢
  split
  · rename_i h1
    rw [h1] at hh
    simp [hits, refs2, refs1, refsC, refs0] at hh
  · rfl
theorem hitsB_kill {ks ks' : List Nat} {b : Blk} (hh : hitsB ks (b.kill ks') = true) : hitsB ks b = true := by
  obtain ⟨k, h1, h2⟩ := hitsB_mem hh
  unfold hitsB
  rw [List.any_eq_true]
  exact ⟨k, blkRefs_kill h1, by simpa using h2⟩
theorem nu_iff {t : Tmps} {d : Nat} : (∀ n, getT (undo t d) n = getT t n) ↔ (mget t d = none ∨ ∀ n, gdOf d (getT t n) = false) := by
  constructor
  · intro hh
    cases hm : mget t d with
    | none => exact .inl rfl
    | some y =>
      refine .inr fun n => ?_
      have := hh n
      rw [getT_undo_eq, hm] at this
      simp only [unGd] at this
      split at this
      · rename_i hg
        rw [← this] at hg
        cases hg
      · assumption
  · rintro (hm | hh) n
    · rw [getT_undo_eq, hm]
    · rw [getT_undo_eq]
      split
      · rfl
      · unfold unGd; rw [hh n]
theorem putK_t {dst : Option Tmp} (hnu : ∀ d, dst = some d → ∀ n, getT (undo s.t d) n = getT s.t n) (x : AV) (ws : Heap) (ks : List Nat) (n : Nat) : getT (putK s dst x ws ks).t n = if dst = some n then x else killA ks (getT s.t n) := by
  have hk : ∀ n, getT (s.kill ks).t n = killA ks (getT s.t n) := fun n => getT_map s.t (killA ks) rfl n
  unfold putK
  cases dst with
  | none => simp [setD, hk]
  | some d =>
    simp only [setD, getT_mset]
    by_cases e : n = d
    · subst e; simp
    · rw [if_neg e, if_neg (by simpa using fun h => e h.symm)]
      have : ∀ n, getT (undo (s.kill ks).t d) n = getT (s.kill ks).t n := by
        rw [nu_iff]
        rcases nu_iff.1 (hnu d rfl) with hm | hh
        · refine .inl ?_
          show mget (s.t.map fun p => (p.1, killA ks p.2)) d = none
          rw [mget_map, hm]; rfl
        · refine .inr fun n => ?_
          rw [hk]
          cases hg : gdOf d (killA ks (getT s.t n)) with
          | false => rfl
          | true =>
            obtain ⟨b, want, y, hy⟩ := gdOf_true hg
            have := hh n
            rw [killA_gd hy] at this
            simp [gdOf] at this
      rw [this, hk]
theorem putK_n (dst : Option Tmp) (x : AV) (ws : Heap) (ks : List Nat) (n : Nat) : mget (putK s dst x ws ks).t n = none ↔ (dst ≠ some n ∧ mget s.t n = none) := by
  have hk : mget (s.kill ks).t n = none ↔ mget s.t n = none := by
    show mget (s.t.map fun p => (p.1, killA ks p.2)) n = none ↔ _
    rw [mget_map]; cases mget s.t n <;> simp
  unfold putK
  cases dst with
  | none => simp [setD, hk]
  | some d =>
    simp only [setD, mget_mset]
    by_cases e : n = d
    · subst e; simp
    · rw [if_neg e, mget_undo, hk]; simp; exact fun _ => fun h => e h.symm
theorem putK_h (dst : Option Tmp) (x : AV) (ws : Heap) (ks : List Nat) (k : Nat) : mget (putK s dst x ws ks).h k = (mget ws.reverse k).or ((mget s.h k).map (Blk.kill ks)) := by
  unfold putK
  rw [mget_msets]
  show _ = (mget ws.reverse k).or ((mget s.h k).map (Blk.kill ks))
  congr 1
  exact mget_map (fun b : Blk => b.kill ks) s.h k
theorem mem_reach_up {hg : Nat → Option Blk} (n : Nat) {ks : List Nat} {k : Nat} (hk : k ∈ reach hg n ks) : k ∈ reach hg (n + 1) ks := mem_reach_up0 n hk
theorem rd_up {k : Nat} (hk : k ∈ rdOf ops s o) : k ∈ rdN 3 ops s o := by
  simp only [rdOf, rdN, List.mem_append] at hk ⊢
  refine hk.imp id ?_
  cases memOp o.op with
  | false => exact fun h => h
  | true => exact mem_reach_up 2
theorem reach3 {hg hg' : Nat → Option Blk} {ks : List Nat} (hh : ∀ k ∈ reach hg 2 ks, hg' k = hg k) : reach hg' 3 ks = reach hg 3 ks := reach_congr' 2 hh
theorem refs_agree (ag : Agree ops o s s2) : tmpRefs ops s2 o = tmpRefs ops s o := flatMap_same fun n hn => by rw [ag.t n hn]
theorem sh_agree (ag : Agree ops o s s2) : shOf ops s2 o = shOf ops s o := by
  unfold shOf
  rw [refs_agree ag]
theorem shape_kill (ks : List Nat) (b : Blk) : (b.kill ks).shape = b.shape := by
  unfold Blk.kill Blk.shape
  split <;> simp
theorem rd_agree (ag : Agree ops o s s2) : rdN 3 ops s2 o = rdN 3 ops s o := by
  have hh := ag.h
  unfold rdOf rdN at hh
  unfold rdN
  rw [refs_agree ag]
  cases hm : memOp o.op with
  | false => rfl
  | true =>
    simp only [hm] at hh ⊢
    rw [reach3 (hg := mget s.h) (hg' := mget s2.h)]
    intro k hk
    exact hh k (List.mem_append.2 (.inr hk))
structure FPOK (ops : List Oper) (s : St) (oo : Oper) (ww : Option (List Nat × List Nat)) (s1 : St) (f : FP) : Prop where
  o : f.o = oo
  tm : f.tm = tmpsOf ops oo
  wr : f.wr = ww
  rd : ∀ k ∈ rdN 3 ops s oo, k ∈ f.rd
  tr : ∀ k ∈ tmpRefs ops s oo, k ∈ f.tr
  tr3 : ∀ k ∈ rdN 3 ops s oo, k ∈ f.tr
  od1 : ∀ d, oo.dst = some d → ∀ k ∈ refs2 (getT s.t d), k ∈ f.tr
  od3 : ∀ k ∈ dstKeys oo.dst, ∀ b, mget s.h k = some b → ∀ j ∈ blkRefs b, j ∈ f.tr
  od2 : ∀ wk ks, ww = some (wk, ks) → ∀ k ∈ wk, ∀ b, mget s.h k = some b → ∀ j ∈ blkRefs b, j ∈ f.tr
  rf : ∀ k ∈ rfOf s1 oo ww, k ∈ f.rf
  kt : ∀ wk ks, ww = some (wk, ks) → ∀ n, hits ks (getT s.t n) = true → n ∈ f.kt
  hit : ∀ wk ks, ww = some (wk, ks) → ∀ k b, mget s.h k = some b → hitsB ks b = true → k ∈ f.hit
  nu : f.nu = true → ∀ d, oo.dst = some d → ∀ n, getT (undo s.t d) n = getT s.t n
  og : ∀ d j b want x, oo.dst = some d → getT s.t d = .gd j b want x → j ∈ f.og
  ogk : ∀ wk ks, ww = some (wk, ks) → ∀ n j b want x, hits ks (getT s.t n) = true → getT s.t n = .gd j b want x → j ∈ f.og
  sh : ∀ k ∈ shOf ops s oo, k ∈ f.sh
  sp : ww.isSome = true → ∀ k, k ∉ f.ws → (mget s1.h k).map Blk.shape = (mget s.h k).map Blk.shape
theorem getT_mem {t : Tmps} {n : Nat} (h : getT t n ≠ .unk) : (n, getT t n) ∈ t := by
  unfold getT at h ⊢
  cases hm : mget t n with
  | none => rw [hm] at h; exact absurd rfl h
  | some x => exact mget_mem hm
theorem norm_store {t : TypeId} {x y : Operand} (ho : o.op = .store t x y) {wk : List Nat} (hn : (norm E g s o).val = some (s', wk)) (k : Nat) : (mget s'.h k).map Blk.shape = (mget s.h k).map Blk.shape := by
  unfold norm at hn
  rw [T.bind_some] at hn
  obtain ⟨p, hp, hn⟩ := hn
  rw [T.ret_some] at hn
  cases hn
  unfold eff at hp
  simp only [ho] at hp
  have e : mget (msets s.h p.2) k = (mget p.2.reverse k).or ((mget s.h k).map (Blk.kill [])) := by
    have := putK_h (s := s) none .unk p.2 [] k
    rw [putK_nil] at this
    exact this
  show (mget (msets s.h p.2) k).map Blk.shape = _
  rw [e]
  split at hp
  · unfold storeK at hp
    split at hp
    · rename_i b i off hx
      split at hp
      · rename_i blk hb
        split at hp
        · simp only [T.ifB_some, T.ret_some, T.fail_some, and_false, or_false, Bool.and_eq_true] at hp
          obtain ⟨⟨⟨⟨⟨c1, c2⟩, c3⟩, c4⟩, c5⟩, rfl⟩ := hp
          have c1 := beq_true.1 c1
          have c5 := beq_true.1 c5
          by_cases hk : k = b
          · subst hk
            rw [hb]
            simp [mget, Blk.shape, rowsA]
            omega
          · have : mget [(b, (⟨blk.box, blk.ty, blk.sz, rowsA (cellsOf (ρOf E g s.t y))⟩ : Blk))].reverse k = none := mget_none_of (by simp; omega)
            rw [this, Option.none_or, Option.map_map]
            congr 1
            funext b; exact shape_kill [] b
        simp only [T.bind_some, T.ifB_some, T.ret_some, T.fail_some, and_false, or_false] at hp
        obtain ⟨row, hrow, hc, rfl⟩ := hp
        by_cases hk : k = b
        · subst hk
          rw [hb]
          simp [mget, Blk.shape]
        · have : mget [(b, (⟨blk.box, blk.ty, blk.sz, blk.rows.set i (putAt row off (inCells blk.box (cellsOf (ρOf E g s.t y))))⟩ : Blk))].reverse k = none := mget_none_of (by simp; omega)
          rw [this, Option.none_or, Option.map_map]
          congr 1
          funext b; exact shape_kill [] b
      · rw [T.fail_some] at hp; exact hp.elim
    · rw [T.fail_some] at hp; exact hp.elim
  · rw [T.fail_some] at hp; exact hp.elim
theorem step1_store {t : TypeId} {x y : Operand} (ho : o.op = .store t x y) {wr : Option (List Nat × List Nat)} (hn : (step1 E g s o).val = some (s', wr)) (k : Nat) : (mget s'.h k).map Blk.shape = (mget s.h k).map Blk.shape := by
  unfold step1 at hn
  simp only [show isApp o.op = none from by rw [ho]; rfl, show hcallOf E (ρOf E g s.t) o.op = none from by rw [ho]; rfl, show frz E (ρOf E g s.t) o.dst o.op = [] from by rw [ho]; rfl] at hn
  rw [T.bind_some] at hn
  obtain ⟨⟨s2, wk⟩, h1, h2⟩ := hn
  unfold wrS at h2
  rw [T.ret_some] at h2
  cases h2
  exact norm_store ho h1 k
theorem guarded_store {t : TypeId} {x y : Operand} (ho : o.op = .store t x y) {d : Nat} {b want : Bool} {wr : Option (List Nat × List Nat)} (hn : (guarded E s o d b want).val = some (s', wr)) (k : Nat) : (mget s'.h k).map Blk.shape = (mget s.h k).map Blk.shape := by
  have skip : (skipO s o d want).val = some (s', wr) → (mget s'.h k).map Blk.shape = (mget s.h k).map Blk.shape := fun h => by
    unfold skipO at h
    rw [T.ret_some] at h
    cases h
    rfl
  unfold guarded at hn
  split at hn
  · split at hn
    · split at hn
      · rw [T.ret_some] at hn
        cases hn
        rfl
      · rw [T.fail_some] at hn; exact hn.elim
    · rw [T.ifB_some] at hn
      rcases hn with ⟨_, hn⟩ | ⟨_, hn⟩
      · rw [T.fail_some] at hn; exact hn.elim
      · exact skip hn
  · rw [T.ifB_some] at hn
    rcases hn with ⟨_, hn⟩ | ⟨_, hn⟩
    · exact step1_store ho hn k
    · exact skip hn
theorem store_shape (hst : stOp o.op = true) {wr : Option (List Nat × List Nat)} (hn : (stepG E ops s o).val = some (s', wr)) (k : Nat) : (mget s'.h k).map Blk.shape = (mget s.h k).map Blk.shape := by
  obtain ⟨t, x, y, ho⟩ : ∃ t x y, o.op = .store t x y := by
    revert hst
    cases o.op <;> intro hst <;> first | exact ⟨_, _, _, rfl⟩ | cases hst
  unfold stepG at hn
  split at hn
  · exact step1_store ho hn k
  · split at hn
    · split at hn
      · exact guarded_store ho hn k
      · exact guarded_store ho hn k
      · rename_i d _ _ _ _ _ _ _
        rw [T.ifB_some] at hn
        rcases hn with ⟨_, hn⟩ | ⟨_, hn⟩
        · rw [T.fail_some] at hn; exact hn.elim
        · unfold skipO at hn
          rw [T.ret_some] at hn
          cases hn
          rfl
      · rw [T.fail_some] at hn; exact hn.elim
    · rw [T.fail_some] at hn; exact hn.elim
theorem fpOf_ok (wr : Option (List Nat × List Nat)) (s1 : St) (hstep : (stepG E ops s o).val = some (s1, wr)) : FPOK ops s o wr s1 (fpOf ops s o wr s1) := by
  have hne : ∀ {ks x}, hits ks x = true → x ≠ .unk := by
    rintro ks x h rfl
    simp [hits, refs2, refs1, refsC, refs0] at h
  have ho : (fpOf ops s o wr s1).o = o := by unfold fpOf; exact Eq.refl _
  have hwr : (fpOf ops s o wr s1).wr = wr := by unfold fpOf; exact Eq.refl _
  have htm : (fpOf ops s o wr s1).tm = tmpsOf ops o := by unfold fpOf; exact Eq.refl _
  refine ⟨ho, htm, hwr, ?_, ?_, ?_, ?_, ?_, ?_, ?_, ?_, ?_, ?_, ?_, ?_, fun k hk => hk, ?_⟩
  · intro k hk
    show k ∈ rdN 3 ops s o
    exact hk
  · intro k hk
    show k ∈ tmpRefs ops s o ++ rdN 3 ops s o ++ oldRefs s o wr
    exact List.mem_append.2 (.inl (List.mem_append.2 (.inl hk)))
  · intro k hk
    show k ∈ tmpRefs ops s o ++ rdN 3 ops s o ++ oldRefs s o wr
    exact List.mem_append.2 (.inl (List.mem_append.2 (.inr hk)))
  · intro d hd k hk
    show k ∈ tmpRefs ops s o ++ rdN 3 ops s o ++ oldRefs s o wr
    refine List.mem_append.2 (.inr ?_)
    unfold oldRefs
    rw [hd]
    exact List.mem_append.2 (.inl (List.mem_append.2 (.inl hk)))
  · intro k hk b hb j hj
    show j ∈ tmpRefs ops s o ++ rdN 3 ops s o ++ oldRefs s o wr
    refine List.mem_append.2 (.inr ?_)
    unfold oldRefs
    refine List.mem_append.2 (.inr (List.mem_flatMap.2 ⟨k, hk, ?_⟩))
    unfold refsH
    rw [hb]; exact hj
  · intro wk ks hw k hk b hb j hj
    show j ∈ tmpRefs ops s o ++ rdN 3 ops s o ++ oldRefs s o wr
    refine List.mem_append.2 (.inr ?_)
    unfold oldRefs
    rw [hw]
    refine List.mem_append.2 (.inl (List.mem_append.2 (.inr (List.mem_flatMap.2 ⟨k, hk, ?_⟩))))
    unfold refsH
    rw [hb]; exact hj
  · intro k hk
    exact hk
  · intro wk ks hw n hn
    show n ∈ ktOf s wr
    subst hw
    cases ks with
    | nil => rw [hits_nil] at hn; cases hn
    | cons q qs => exact List.mem_map.2 ⟨_, List.mem_filter.2 ⟨getT_mem (hne hn), hn⟩, rfl⟩
  · intro wk ks hw k b hb hh
    show k ∈ hitOf s wr
    subst hw
    cases ks with
    | nil => rw [hitsB_nil] at hh; cases hh
    | cons q qs => exact List.mem_map.2 ⟨_, List.mem_filter.2 ⟨mget_mem hb, hh⟩, rfl⟩
  · intro hnu d hd n
    have hnu : nuB s.t o.dst = true := hnu
    rw [hd] at hnu
    simp only [nuB] at hnu
    rw [getT_undo_eq]
    split at hnu <;> rename_i hm
    · simp only [hm]
    · simp only [hm]
      unfold unGd
      split
      · rename_i hg
        exfalso
        unfold getT at hg
        cases hk : mget s.t n with
        | none => rw [hk] at hg; cases hg
        | some y =>
          rw [hk] at hg
          have := List.all_eq_true.1 hnu (n, y) (mget_mem hk)
          simp only [Bool.not_eq_true'] at this
          rw [hg] at this
          cases this
      · rfl
  · intro d j b want x hd hx
    show j ∈ ogOf s.t o.dst ++ ogkOf s wr
    refine List.mem_append.2 (.inl ?_)
    rw [hd]
    simp only [ogOf, hx]
    simp
  · intro wk ks hw n j b want x hn hx
    show j ∈ ogOf s.t o.dst ++ ogkOf s wr
    refine List.mem_append.2 (.inr ?_)
    subst hw
    cases ks with
    | nil => rw [hits_nil] at hn; cases hn
    | cons q qs =>
      refine List.mem_flatMap.2 ⟨_, List.mem_filter.2 ⟨getT_mem (hne hn), hn⟩, ?_⟩
      simp only [hx, gdBy]
      simp
  · intro hs k hk
    cases wr with
    | none => cases hs
    | some wkk =>
      cases hst : stOp o.op with
      | true => exact store_shape hst hstep k
      | false =>
        have hk' : k ∉ wkk.1 := fun hh => hk (by
          show k ∈ wsOf o (some wkk)
          unfold wsOf
          rw [hst]
          exact hh)
        obtain ⟨av, ws, ks, rfl, rfl, _, _⟩ := stepG_frame hstep
        rw [putK_h, mget_none_of (by simpa using hk'), Option.none_or, Option.map_map]
        congr 1
        funext b; exact shape_kill ks b
theorem rf_eq (s s2 : St) (x : AV) (ws : Heap) (ks : List Nat) : rfOf (putK s2 o.dst x ws ks) o (some (ws.map (·.1), ks)) = rfOf (putK s o.dst x ws ks) o (some (ws.map (·.1), ks)) := by
  unfold rfOf
  have e1 : ∀ s : St, dstRefs (putK s o.dst x ws ks).t o.dst = (match o.dst with | some _ => refs2 x | none => []) := by
    intro s
    cases hd : o.dst with
    | none => rfl
    | some d => simp only [dstRefs, putK, setD, getT_mset, if_true]
  rw [e1 s, e1 s2]
  congr 1
  unfold wrRefs
  refine flatMap_same fun k hk => ?_
  unfold refsH
  rw [putK_h, putK_h]
  have : mget ws.reverse k ≠ none := by
    obtain ⟨b, hb⟩ := mget_ne (m := ws.reverse) (k := k) (by simpa using hk)
    rw [hb]; simp
  cases hm : mget ws.reverse k with
  | none => exact absurd hm this
  | some b => rfl
theorem FPOK.rf_av {x : AV} {ws : Heap} {ks : List Nat} {f : FP} (hf : FPOK ops s o (some (ws.map (·.1), ks)) (putK s o.dst x ws ks) f) {d : Nat} (hd : o.dst = some d) : ∀ k ∈ refs2 x, k ∈ f.rf := fun k hk => hf.rf k (by
  unfold rfOf
  refine List.mem_append.2 (.inl ?_)
  rw [hd]
  simp only [dstRefs, putK, setD, getT_mset, if_true]
  exact hk)
theorem FPOK.rf_ws {x : AV} {ws : Heap} {ks : List Nat} {f : FP} (hf : FPOK ops s o (some (ws.map (·.1), ks)) (putK s o.dst x ws ks) f) {k : Nat} {b : Blk} (hb : mget ws.reverse k = some b) : ∀ j ∈ blkRefs b, j ∈ f.rf := fun j hj => hf.rf j (by
  unfold rfOf
  refine List.mem_append.2 (.inr (List.mem_flatMap.2 ⟨k, ?_, ?_⟩))
  · have := List.mem_map_of_mem (f := fun (p : Nat × Blk) => p.1) (mget_mem hb)
    simpa using this
  · unfold refsH
    rw [putK_h, hb]
    exact hj)
theorem FPOK.eqv {wr : Option (List Nat × List Nat)} {s1 s2' : St} {f : FP} (hf : FPOK ops s o wr s1 f) (e : Eqv s s2) (e1 : Eqv s1 s2') : FPOK ops s2 o wr s2' f := by
  refine ⟨hf.o, hf.tm, hf.wr, fun k hk => hf.rd k (by rw [rd_agree e.agree] at hk; exact hk), fun k hk => hf.tr k (by rw [refs_agree e.agree] at hk; exact hk), fun k hk => hf.tr3 k (by rw [rd_agree e.agree] at hk; exact hk), fun d hd k hk => hf.od1 d hd k (by rw [e.t d] at hk; exact hk), fun k hk b hb => hf.od3 k hk b (by rw [e.h k] at hb; exact hb), fun wk ks hw k hk b hb => hf.od2 wk ks hw k hk b (by rw [e.h k] at hb; exact hb), fun k hk => hf.rf k ?_, fun wk ks hw n hn => hf.kt wk ks hw n (by rw [e.t n] at hn; exact hn),
    fun wk ks hw k b hb => hf.hit wk ks hw k b (by rw [e.h k] at hb; exact hb), fun hnu d hd n => ?_, fun d j b want x hd hx => hf.og d j b want x hd (by rw [← e.t d]; exact hx), fun wk ks hw n j b want x hn hx => hf.ogk wk ks hw n j b want x (by rw [e.t n] at hn; exact hn) (by rw [e.t n] at hx; exact hx), fun k hk => hf.sh k (by rw [sh_agree e.agree] at hk; exact hk), fun hw k hk => by rw [e1.h k, e.h k]; exact hf.sp hw k hk⟩
  · unfold rfOf at hk ⊢
    have e2 : dstRefs s2'.t o.dst = dstRefs s1.t o.dst := by
      cases o.dst with
      | none => rfl
      | some d => simp only [dstRefs]; rw [e1.t d]
    have e3 : wrRefs s2'.h wr = wrRefs s1.h wr := by
      have e4 : refsH (mget s2'.h) = refsH (mget s1.h) := by funext k; unfold refsH; rw [e1.h k]
      unfold wrRefs
      rw [e4]
    rw [e2, e3] at hk
    exact hk
  · have := hf.nu hnu d hd n
    rw [getT_undo_eq] at this ⊢
    rw [e.t n]
    have hn := e.n d
    cases h1 : mget s2.t d <;> cases h2 : mget s.t d <;> simp_all
def Run (E : Env) (ops : List Oper) : List Nat → St → List FP → St → Prop
  | [], s, tr, s' => tr = [] ∧ Eqv s s'
  | i :: l, s, tr, s' => ∃ o s1 wr f tr', ops[i]? = some o ∧ (stepG E ops s o).val = some (s1, wr) ∧ FPOK ops s o wr s1 f ∧ tr = f :: tr' ∧ Run E ops l s1 tr' s'
theorem Run.eqv : ∀ {l : List Nat} {s s2 : St} {tr : List FP} {s' : St}, Run E ops l s tr s' → Eqv s s2 → Run E ops l s2 tr s'
  | [], s, s2, tr, s', hr, e => ⟨hr.1, e.symm.trans hr.2⟩
  | i :: l, s, s2, tr, s', ⟨o, s1, wr, f, tr', h1, h2, h3, h4, h5⟩, e => by
    obtain ⟨s1', k1, k2⟩ := stepG_eqv e h2
    exact ⟨o, s1', wr, f, tr', h1, k1, h3.eqv e k2, h4, h5.eqv k2⟩
theorem apart_spec {x y : List Nat} (hh : apart x y = true) : ∀ k ∈ x, k ∉ y := fun k hk => by
  have := List.all_eq_true.1 hh k hk
  simpa using this
theorem offDst_spec {l : List Nat} (hh : offDst o l = true) : ∀ d, o.dst = some d → d ∉ l := fun d hd => by
  unfold offDst at hh
  rw [hd] at hh
  simpa using hh
theorem oneOf_spec {x y : List Nat} (hh : oneOf x y = true) : x = [] ∨ y = [] := by
  cases x
  · exact .inl rfl
  · cases y
    · exact .inr rfl
    · cases hh
theorem Run.swap {b i : Nat} {l : List Nat} {fb fi : FP} {tr : List FP} (hr : Run E ops (b :: i :: l) s (fb :: fi :: tr) s') (hno : noHit ops fb fi = true) : Run E ops (i :: b :: l) s (fi :: fb :: tr) s' := by
  obtain ⟨ob, s1, wb, f1, tr1, hb1, hb2, hb3, hb4, oi, s2, wi, f2, tr2, hi1, hi2, hi3, hi4, hl⟩ := hr
  cases hb4
  cases hi4
  unfold noHit at hno
  simp only [Bool.and_eq_true] at hno
  obtain ⟨⟨⟨⟨⟨⟨⟨⟨⟨nu1, nu2⟩, sh1⟩, sh2⟩, t1⟩, t2⟩, dd⟩, og1⟩, og2⟩, hw⟩ := hno
  have sh1 := apart_spec sh1
  have sh2 := apart_spec sh2
  rw [hb3.o] at t1 dd og1
  rw [hb3.tm] at t2
  rw [hi3.o] at t2 dd og2
  rw [hi3.tm] at t1
  rw [hb3.wr, hi3.wr] at hw
  cases wb with
  | none => cases hw
  | some wkb =>
    cases wi with
    | none => cases hw
    | some wki =>
      simp only [Bool.and_eq_true] at hw
      obtain ⟨⟨⟨⟨⟨⟨⟨⟨⟨⟨w1, w2⟩, w3⟩, one⟩, c1⟩, c2⟩, c3⟩, c4⟩, c5⟩, c6⟩, c7⟩ := hw
      obtain ⟨a1, ws1, k1, rfl, rfl, g1, fr1⟩ := stepG_frame hb2
      obtain ⟨a2, ws2, k2, rfl, rfl, g2, fr2⟩ := stepG_frame hi2
      simp only at w1 w2 w3 one c4 c5 c6 c7
      rw [hi3.tm] at c1
      rw [hi3.o] at c2
      have w1 := apart_spec w1
      have w2 := apart_spec w2
      have w3 := apart_spec w3
      have c1 := apart_spec c1
      have c2 := offDst_spec c2
      have c3 := apart_spec c3
      have c4 := apart_spec c4
      have c5 := apart_spec c5
      have c6 := apart_spec c6
      have c7 := apart_spec c7
      have one := oneOf_spec one
      have t1 := offDst_spec t1
      have t2 := offDst_spec t2
      have dd := offDst_spec dd
      have og1 := offDst_spec og1
      have og2 := offDst_spec og2
      have ddi : ∀ d, oi.dst = some d → ob.dst ≠ some d := fun d hd hh => dd d hh (by rw [hd]; simp)
      have ddb : ∀ d, ob.dst = some d → oi.dst ≠ some d := fun d hd hh => dd d hd (by rw [hh]; simp)
      have getb := putK_t (s := s) (dst := ob.dst) (hb3.nu nu1) a1 ws1 k1
      have notW : ∀ {ws : Heap} {k : Nat}, k ∉ ws.map (·.1) → mget ws.reverse k = none := fun {ws k} hk => mget_none_of (by simpa using hk)
      have keepT : ∀ n, ob.dst ≠ some n → n ∉ fb.kt → getT (putK s ob.dst a1 ws1 k1).t n = getT s.t n := by
        intro n hn hk
        rw [getb, if_neg hn]
        refine killA_eq ?_
        cases hh : hits k1 (getT s.t n) with
        | false => rfl
        | true => exact absurd (hb3.kt _ _ rfl n hh) hk
      have keepH : ∀ k, k ∉ ws1.map (·.1) → k ∉ fb.hit → mget (putK s ob.dst a1 ws1 k1).h k = mget s.h k := by
        intro k hk hh
        rw [putK_h, notW hk, Option.none_or]
        cases hm : mget s.h k with
        | none => rfl
        | some bl =>
          simp only [Option.map_some]
          rw [killB_eq]
          cases hb : hitsB k1 bl with
          | false => rfl
          | true => exact absurd (hb3.hit _ _ rfl k bl hm hb) hh
      have shB : ∀ k, k ∉ fb.ws → (mget (putK s ob.dst a1 ws1 k1).h k).map Blk.shape = (mget s.h k).map Blk.shape := hb3.sp rfl
      have mapK : ∀ (ks : List Nat) (q : Option Blk), (q.map (Blk.kill ks)).map Blk.shape = q.map Blk.shape := fun ks q => by
        cases q with
        | none => rfl
        | some b => simp only [Option.map_some, shape_kill]
      have shI : ∀ k, k ∉ fi.ws → (mget (putK s oi.dst a2 ws2 k2).h k).map Blk.shape = (mget s.h k).map Blk.shape := by
        intro k hk
        have h0 := hi3.sp rfl k hk
        rw [putK_h] at h0 ⊢
        cases hm : mget ws2.reverse k with
        | none => rw [Option.none_or]; exact mapK _ _
        | some b2 =>
          rw [hm, Option.some_or] at h0
          rw [Option.some_or, h0, putK_h]
          have hk1 : k ∉ ws1.map (·.1) := fun hh => w3 k hh (by
            have := List.mem_map_of_mem (f := fun (p : Nat × Blk) => p.1) (mget_mem hm)
            simpa using this)
          rw [notW hk1, Option.none_or]; exact mapK _ _
      have ag1 : Agree ops oi (putK s ob.dst a1 ws1 k1) s := by
        refine ⟨fun n hn => (keepT n (fun hd => t1 n hd hn) (fun hk => c1 n hk hn)).symm, fun k hk => ?_, fun k hk => (shB k fun hh => sh1 k hh (hi3.sh k hk)).symm⟩
        have := hi3.rd k (rd_up hk)
        exact (keepH k (fun hh => w1 k hh this) (fun hh => c3 k hh this)).symm
      have hi2' := fr2 s ag1
      have undo2 : ∀ d, oi.dst = some d → ∀ n, getT (undo s.t d) n = getT s.t n := by
        intro d hd
        rw [nu_iff]
        rcases nu_iff.1 (hi3.nu nu2 d hd) with hm | hh
        · exact .inl ((putK_n ob.dst a1 ws1 k1 d).1 hm).2
        · refine .inr fun n => ?_
          cases hg : gdOf d (getT s.t n) with
          | false => rfl
          | true =>
            exfalso
            obtain ⟨b', want', z, hz⟩ := gdOf_true hg
            by_cases hn : ob.dst = some n
            · exact og2 d hd (hb3.og n d b' want' z hn hz)
            · have := hh n
              rw [getb, if_neg hn] at this
              cases hk : hits k1 (getT s.t n) with
              | true => exact og2 d hd (hb3.ogk _ _ rfl n d b' want' z hk hz)
              | false => rw [killA_eq hk, hg] at this; cases this
      have geti := putK_t (s := s) (dst := oi.dst) undo2 a2 ws2 k2
      have ag2 : Agree ops ob s (putK s oi.dst a2 ws2 k2) := by
        refine ⟨fun n hn => ?_, fun k hk => ?_, fun k hk => shI k fun hh => sh2 k hh (hb3.sh k hk)⟩
        · rw [geti, if_neg (fun hd => t2 n hd hn)]
          exact killA_eq (hits_apart fun k hk hh => c6 k hh (hb3.tr k (List.mem_flatMap.2 ⟨n, hn, hk⟩)))
        · rw [putK_h, notW (fun hh => w2 k hh (hb3.rd k (rd_up hk))), Option.none_or]
          cases hm : mget s.h k with
          | none => rfl
          | some bl =>
            simp only [Option.map_some]
            have hnew : ∀ j ∈ blkRefs bl, j ∉ k2 := by
              intro j hj hh
              simp only [rdOf, rdN, List.mem_append] at hk
              rcases hk with hk | hk
              · exact c6 j hh (hb3.od3 k hk bl hm j hj)
              · refine c6 j hh (hb3.tr3 j ?_)
                simp only [rdN, List.mem_append]
                refine .inr ?_
                cases hmm : memOp ob.op with
                | false => simp only [hmm] at hk; cases hk
                | true =>
                  simp only [hmm] at hk ⊢
                  exact mem_reach_succ 2 hk hm hj
            rw [killB_eq (hitsB_apart hnew)]
      have hb2' := fr1 _ ag2
      have fi' : FPOK ops s oi (some (ws2.map (·.1), k2)) (putK s oi.dst a2 ws2 k2) fi := by
        refine ⟨hi3.o, hi3.tm, hi3.wr, ?_, ?_, ?_, ?_, ?_, ?_, ?_, ?_, ?_, ?_, ?_, ?_, fun k hk => hi3.sh k (by rw [sh_agree ag1] at hk; exact hk), fun _ k hk => shI k hk⟩
        · intro k hk
          rw [rd_agree ag1] at hk
          exact hi3.rd k hk
        · intro k hk
          rw [refs_agree ag1] at hk
          exact hi3.tr k hk
        · intro k hk
          rw [rd_agree ag1] at hk
          exact hi3.tr3 k hk
        · intro d hd k hk
          rw [← keepT d (ddi d hd) (c2 d hd)] at hk
          exact hi3.od1 d hd k hk
        · intro k hk b hb j hj
          have hrd := hi3.rd k (by simp only [rdN, List.mem_append]; exact .inl hk)
          rw [← keepH k (fun hh => w1 k hh hrd) (fun hh => c3 k hh hrd)] at hb
          exact hi3.od3 k hk b hb j hj
        · intro wk ks hw k hk b hb j hj
          cases hw
          rw [← keepH k (fun hh => w3 k hh hk) (fun hh => c4 k hh hk)] at hb
          exact hi3.od2 _ _ rfl k hk b hb j hj
        · intro k hk
          rw [rf_eq (putK s ob.dst a1 ws1 k1) s] at hk
          exact hi3.rf k hk
        · intro wk ks hw n hn
          cases hw
          rcases one with rfl | rfl
          · by_cases hd : ob.dst = some n
            · obtain ⟨k, q1, q2⟩ := hits_mem hn
              exact absurd (hb3.od1 n hd k q1) (c6 k q2)
            · refine hi3.kt _ _ rfl n ?_
              rw [getb, if_neg hd, killA_nil]
              exact hn
          · rw [hits_nil] at hn; cases hn
        · intro wk ks hw k b hb hh
          cases hw
          rcases one with rfl | rfl
          · by_cases hk : k ∈ ws1.map (·.1)
            · obtain ⟨j, q1, q2⟩ := hitsB_mem hh
              exact absurd (hb3.od2 _ _ rfl k hk b hb j q1) (c6 j q2)
            · refine hi3.hit _ _ rfl k b ?_ hh
              rw [putK_h, notW hk, hb]
              simp only [Option.none_or, Option.map_some]
              rw [blk_kill_nil]
          · rw [hitsB_nil] at hh; cases hh
        · exact fun _ => undo2
        · intro d j b want x hd hx
          refine hi3.og d j b want x hd ?_
          rw [keepT d (ddi d hd) (c2 d hd)]
          exact hx
        · intro wk ks hw n j b want x hn hx
          cases hw
          rcases one with rfl | rfl
          · by_cases hd : ob.dst = some n
            · obtain ⟨k, q1, q2⟩ := hits_mem hn
              exact absurd (hb3.od1 n hd k q1) (c6 k q2)
            · have e : getT (putK s ob.dst a1 ws1 []).t n = getT s.t n := by rw [getb, if_neg hd, killA_nil]
              exact hi3.ogk _ _ rfl n j b want x (by rw [e]; exact hn) (by rw [e]; exact hx)
          · rw [hits_nil] at hn; cases hn
      have hdb : ∀ d, ob.dst = some d → getT (putK s oi.dst a2 ws2 k2).t d = killA k2 (getT s.t d) := fun d hd => by rw [geti, if_neg (ddb d hd)]
      have hnA : ∀ n, hits k1 (getT (putK s oi.dst a2 ws2 k2).t n) = true → oi.dst ≠ some n ∧ getT (putK s oi.dst a2 ws2 k2).t n = getT s.t n := by
        intro n hn
        rw [geti] at hn ⊢
        by_cases hd : oi.dst = some n
        · rw [if_pos hd] at hn
          obtain ⟨k, q1, q2⟩ := hits_mem hn
          exact absurd (hi3.rf_av hd k q1) (c5 k q2)
        · rw [if_neg hd] at hn ⊢
          exact ⟨hd, hits_kill hn⟩
      have nuB' : ∀ d, ob.dst = some d → ∀ n, getT (undo (putK s oi.dst a2 ws2 k2).t d) n = getT (putK s oi.dst a2 ws2 k2).t n := by
        intro d hd
        rw [nu_iff]
        rcases nu_iff.1 (hb3.nu nu1 d hd) with hm | hh
        · exact .inl ((putK_n oi.dst a2 ws2 k2 d).2 ⟨ddb d hd, hm⟩)
        · refine .inr fun n => ?_
          cases hg : gdOf d (getT (putK s oi.dst a2 ws2 k2).t n) with
          | false => rfl
          | true =>
            exfalso
            obtain ⟨b', want', z, hz⟩ := gdOf_true hg
            rw [geti] at hz
            by_cases hn : oi.dst = some n
            · rw [if_pos hn] at hz
              exact t1 d hd (g2 d b' want' z hz)
            · rw [if_neg hn] at hz
              have := hh n
              rw [killA_gd hz] at this
              simp [gdOf] at this
      have fb' : FPOK ops (putK s oi.dst a2 ws2 k2) ob (some (ws1.map (·.1), k1)) (putK (putK s oi.dst a2 ws2 k2) ob.dst a1 ws1 k1) fb := by
        have shB2 : ∀ k, k ∉ fb.ws → (mget (putK (putK s oi.dst a2 ws2 k2) ob.dst a1 ws1 k1).h k).map Blk.shape = (mget (putK s oi.dst a2 ws2 k2).h k).map Blk.shape := by
          intro k hk
          have h0 := shB k hk
          rw [putK_h] at h0
          rw [putK_h (s := putK s oi.dst a2 ws2 k2) (dst := ob.dst)]
          cases hm : mget ws1.reverse k with
          | none => rw [Option.none_or]; exact mapK _ _
          | some b1 =>
            rw [hm, Option.some_or] at h0
            rw [Option.some_or, h0, putK_h]
            have hk2 : k ∉ ws2.map (·.1) := w3 k (by
              have := List.mem_map_of_mem (f := fun (p : Nat × Blk) => p.1) (mget_mem hm)
              simpa using this)
            rw [notW hk2, Option.none_or]; exact (mapK _ _).symm
        refine ⟨hb3.o, hb3.tm, hb3.wr, ?_, ?_, ?_, ?_, ?_, ?_, ?_, ?_, ?_, ?_, ?_, ?_, fun k hk => hb3.sh k (by rw [sh_agree ag2] at hk; exact hk), fun _ k hk => shB2 k hk⟩
        · intro k hk
          rw [rd_agree ag2] at hk
          exact hb3.rd k hk
        · intro k hk
          rw [refs_agree ag2] at hk
          exact hb3.tr k hk
        · intro k hk
          rw [rd_agree ag2] at hk
          exact hb3.tr3 k hk
        · intro d hd k hk
          rw [hdb d hd] at hk
          exact hb3.od1 d hd k (refs_kill hk)
        · intro k hk b hb j hj
          have hrd := hb3.rd k (by simp only [rdN, List.mem_append]; exact .inl hk)
          rw [putK_h, notW (fun hh => w2 k hh hrd), Option.none_or, Option.map_eq_some_iff] at hb
          obtain ⟨b0, h0, rfl⟩ := hb
          exact hb3.od3 k hk b0 h0 j (blkRefs_kill hj)
        · intro wk ks hw k hk b hb j hj
          cases hw
          rw [putK_h, notW (fun hh => w3 k hk hh), Option.none_or, Option.map_eq_some_iff] at hb
          obtain ⟨b0, h0, rfl⟩ := hb
          exact hb3.od2 _ _ rfl k hk b0 h0 j (blkRefs_kill hj)
        · intro k hk
          rw [rf_eq s (putK s oi.dst a2 ws2 k2)] at hk
          exact hb3.rf k hk
        · intro wk ks hw n hn
          cases hw
          obtain ⟨_, e⟩ := hnA n hn
          rw [e] at hn
          exact hb3.kt _ _ rfl n hn
        · intro wk ks hw k b hb hh
          cases hw
          rw [putK_h] at hb
          cases hm : mget ws2.reverse k with
          | some b2 =>
            rw [hm] at hb
            simp only [Option.some_or, Option.some.injEq] at hb
            subst hb
            obtain ⟨j, q1, q2⟩ := hitsB_mem hh
            exact absurd (hi3.rf_ws hm j q1) (c5 j q2)
          | none =>
            rw [hm, Option.none_or, Option.map_eq_some_iff] at hb
            obtain ⟨b0, h0, rfl⟩ := hb
            exact hb3.hit _ _ rfl k b0 h0 (hitsB_kill hh)
        · exact fun _ => nuB'
        · intro d j b want x hd hx
          rw [hdb d hd] at hx
          exact hb3.og d j b want x hd (killA_gd hx)
        · intro wk ks hw n j b want x hn hx
          cases hw
          obtain ⟨_, e⟩ := hnA n hn
          rw [e] at hn hx
          exact hb3.ogk _ _ rfl n j b want x hn hx
      refine ⟨oi, _, _, fi, fb :: tr, hi1, hi2', fi', rfl, ob, _, _, fb, tr, hb1, hb2', fb', rfl, hl.eqv ?_⟩
      have av1 : ∀ n, ob.dst = some n → killA k2 a1 = a1 := fun n hn => killA_eq (hits_apart fun k hk hh => c7 k hh (hb3.rf_av hn k hk))
      have av2 : ∀ n, oi.dst = some n → killA k1 a2 = a2 := fun n hn => killA_eq (hits_apart fun k hk hh => c5 k hh (hi3.rf_av hn k hk))
      refine ⟨fun n => ?_, fun n => ?_, fun k => ?_⟩
      · rw [putK_t nuB', putK_t (hi3.nu nu2), geti, getb]
        by_cases h1 : ob.dst = some n
        · have h2 := ddb n h1
          rw [if_pos h1, if_neg h2, if_pos h1, av1 n h1]
        · rw [if_neg h1]
          by_cases h2 : oi.dst = some n
          · rw [if_pos h2, if_pos h2, av2 n h2]
          · rw [if_neg h2, if_neg h2, if_neg h1]
            rcases one with rfl | rfl
            · rw [killA_nil, killA_nil]
            · rw [killA_nil, killA_nil]
      · simp only [putK_n]
        exact ⟨fun ⟨p, q, r⟩ => ⟨q, p, r⟩, fun ⟨p, q, r⟩ => ⟨q, p, r⟩⟩
      · simp only [putK_h]
        by_cases h1 : k ∈ ws1.map (·.1)
        · rw [notW (w3 k h1), Option.none_or]
          obtain ⟨b1, hb1⟩ := mget_ne (m := ws1.reverse) (k := k) (by simpa using h1)
          rw [hb1]
          simp only [Option.some_or, Option.map_some, Option.none_or]
          rw [killB_eq (hitsB_apart fun j hj hh => c7 j hh (hb3.rf_ws hb1 j hj))]
        · rw [notW h1, Option.none_or, Option.none_or]
          cases hm : mget ws2.reverse k with
          | some b2 =>
            simp only [Option.some_or, Option.map_some]
            rw [killB_eq (hitsB_apart fun j hj hh => c5 j hh (hi3.rf_ws hm j hj))]
          | none =>
            simp only [Option.none_or, Option.map_map]
            rcases one with rfl | rfl
            · have : Blk.kill [] = id := funext blk_kill_nil
              rw [this]; rfl
            · have : Blk.kill [] = id := funext blk_kill_nil
              rw [this]; rfl

theorem Run.first : ∀ {pre : List Nat} {i : Nat} {post : List Nat} {s : St} {tp : List FP} {fi : FP} {tq : List FP} {s' : St}, tp.length = pre.length → Run E ops (pre ++ i :: post) s (tp ++ fi :: tq) s' → (∀ f ∈ tp, noHit ops f fi = true) →
    Run E ops (i :: (pre ++ post)) s (fi :: (tp ++ tq)) s'
  | [], i, post, s, tp, fi, tq, s', hl, hr, _ => by
    cases tp with
    | nil => exact hr
    | cons f tp => simp at hl
  | b :: pre, i, post, s, tp, fi, tq, s', hl, hr, hno => by
    cases tp with
    | nil => simp at hl
    | cons fb tp =>
      obtain ⟨ob, s1, wb, f1, tr1, hb1, hb2, hb3, hb4, hrest⟩ := hr
      simp only [List.cons_append, List.cons.injEq] at hb4
      obtain ⟨rfl, rfl⟩ := hb4
      have ih := Run.first (pre := pre) (by simpa using hl) hrest fun f hf => hno f (by simp [hf])
      exact Run.swap ⟨ob, s1, wb, fb, _, hb1, hb2, hb3, rfl, ih⟩ (hno fb (by simp))
theorem run_of_steps : ∀ (r : List Oper) (k : Nat) (s : St) (tr : List FP) (s' : St), (∀ j, r[j]? = ops[k + j]?) → (stepsD E ops r s tr).val = some s' →
    ∃ tq, Run E ops (List.range' k r.length) s tq s' ∧ tq.length = r.length ∧ chkAll ops (tq.reverse ++ tr) = true ∧ backOK 0 ops = true
  | [], k, s, tr, s', hr, hs => by
    rw [stepsD] at hs
    split at hs
    · rename_i hc
      rw [T.ret_some] at hs
      subst hs
      simp only [Bool.and_eq_true] at hc
      exact ⟨[], ⟨rfl, Eqv.refl _⟩, rfl, by simpa using hc.1, hc.2⟩
    · rw [T.fail_some] at hs; exact hs.elim
  | o :: r, k, s, tr, s', hr, hs => by
    rw [stepsD, T.bind_some] at hs
    obtain ⟨⟨s1, wr⟩, h1, h2⟩ := hs
    obtain ⟨tq, k1, k2, k3, k4⟩ := run_of_steps r (k + 1) s1 _ s' (fun j => by have := hr (j + 1); rw [List.getElem?_cons_succ] at this; rw [this]; congr 1; omega) h2
    refine ⟨fpOf ops s o wr s1 :: tq, ?_, by simp [k2], by simpa using k3, k4⟩
    rw [List.length_cons, List.range'_succ]
    exact ⟨o, s1, wr, _, tq, by have := hr 0; simpa using this.symm, h1, fpOf_ok wr s1 h1, rfl, k1⟩
theorem chkOne_spec {f : FP} : ∀ {r : List FP}, chkOne ops f r = true → ∀ (b : Nat) (g : FP), r.reverse[b]? = some g → (edge b f.o = true ∨ pathB ops 12 b f.o = true) ∨ noHit ops g f = true
  | [], _, b, g, hb => by simp at hb
  | g0 :: r, h, b, g, hb => by
    rw [List.reverse_cons, List.getElem?_append] at hb
    simp only [chkOne] at h
    split at hb
    · split at h
      · exact chkOne_spec h b g hb
      · split at h
        · exact chkOne_spec h b g hb
        · split at h
          · exact chkOne_spec h b g hb
          · cases h
    · rename_i hlt
      have hbl : b = r.length := by have := (List.getElem?_eq_some_iff.1 hb).1; simp at this hlt; omega
      subst hbl
      simp at hb
      subst hb
      split at h
      · exact .inl (.inl ‹_›)
      · split at h
        · exact .inr ‹_›
        · split at h
          · exact .inl (.inr ‹_›)
          · cases h
theorem chkAll_spec : ∀ {l : List FP}, chkAll ops l = true → ∀ (b i : Nat) (fb fi : FP), b < i → l.reverse[b]? = some fb → l.reverse[i]? = some fi → (edge b fi.o = true ∨ pathB ops 12 b fi.o = true) ∨ noHit ops fb fi = true
  | [], _, b, i, fb, fi, _, hb, _ => by simp at hb
  | f :: r, h, b, i, fb, fi, hlt, hb, hi => by
    simp only [chkAll] at h
    split at h
    · rename_i h1
      rw [List.reverse_cons, List.getElem?_append] at hb hi
      split at hi
      · rw [if_pos (by omega)] at hb
        exact chkAll_spec h b i fb fi hlt hb hi
      · rename_i hil
        have hie : i = r.length := by have := (List.getElem?_eq_some_iff.1 hi).1; simp at this hil; omega
        subst hie
        simp at hi
        subst hi
        rw [if_pos (by simpa using hlt)] at hb
        exact chkOne_spec h1 b fb hb
    · cases h
def left (listed : Array Bool) (n : Nat) : List Nat := (List.range n).filter fun i => !listed.getD i true
theorem edge_after {o : Oper} {j : Nat} (he : edge j o = true) : ∃ e ∈ o.after, e.on = j ∧ Region.binds .any e = true := by
  unfold edge at he
  rw [List.any_eq_true] at he
  obtain ⟨e, h1, h2⟩ := he
  simp only [Bool.and_eq_true] at h2
  refine ⟨e, by simpa using h1, beq_true.1 h2.1, ?_⟩
  unfold Region.binds
  have := h2.2
  split at this <;> simp_all
theorem backOK_spec : ∀ {r : List Oper} {k : Nat}, backOK k r = true → ∀ (j : Nat) (o : Oper), r[j]? = some o → ∀ e ∈ o.after, Region.binds .any e = true → e.on < k + j
  | [], k, _, j, o, hj => by simp at hj
  | o0 :: r, k, h, j, o, hj => by
    simp only [backOK] at h
    split at h
    · rename_i hall
      cases j with
      | zero =>
        simp at hj
        subst hj
        intro e he hb
        have := List.all_eq_true.1 hall e (by simpa using he)
        unfold Region.binds at hb
        split at this <;> simp_all
      | succ j =>
        simp at hj
        intro e he hb
        have := backOK_spec h j o hj e he hb
        omega
    · cases h
theorem mem_left {listed : Array Bool} {n i : Nat} : i ∈ left listed n ↔ i < n ∧ listed.getD i true = false := by
  unfold left; rw [List.mem_filter, List.mem_range, Bool.not_eq_true']
theorem left_set {listed : Array Bool} {n i : Nat} (hs : listed.size = n) (hi : i < n) : left (listed.setIfInBounds i true) n = (left listed n).filter fun j => decide (j ≠ i) := by
  unfold left
  rw [List.filter_filter]
  refine List.filter_congr fun j hj => ?_
  have hj : j < n := by simpa using hj
  by_cases e : j = i
  · subst e
    simp [Array.getD_eq_getD_getElem?, Array.getElem?_setIfInBounds, hs, hi]
  · simp [Array.getD_eq_getD_getElem?, Array.getElem?_setIfInBounds, Ne.symm e, e]
theorem bindsB_any {e : Edge} (h : bindsB e = true) : Region.binds .any e = true := by
  unfold bindsB at h
  unfold Region.binds
  split at h <;> simp_all
theorem path_listed {opa : Array Oper} {listed : Array Bool} (hcl : ∀ x o, opa[x]? = some o → listed.getD x false = true → ∀ e ∈ o.after, Region.binds .any e = true → listed.getD e.on false = true) {b : Nat} :
    ∀ (n : Nat) (o : Oper), pathB opa.toList n b o = true → (∀ e ∈ o.after, Region.binds .any e = true → listed.getD e.on false = true) → listed.getD b false = true
  | 0, o, hp, _ => by cases hp
  | n + 1, o, hp, ho => by
    rw [pathB, List.any_eq_true] at hp
    obtain ⟨e, he, hp⟩ := hp
    have he : e ∈ o.after := by simpa using he
    split at hp
    · rename_i hb
      have hl := ho e he (bindsB_any hb)
      split at hp
      · rename_i hj
        rw [← beq_true.1 hj]; exact hl
      · split at hp
        · split at hp
          · rename_i p hpp
            exact path_listed hcl n p hp (hcl e.on p (by simpa using hpp) hl)
          · cases hp
        · cases hp
    · cases hp
theorem draw_any (ok : EnvOK P E) {opa : Array Oper} (hd : DstOK N opa) (F : Nat → FP) {sF : St}
    (hF : ∀ i o, opa[i]? = some o → (F i).o = o) (hpair : ∀ b i, b < i → i < opa.size → (edge b (F i).o = true ∨ pathB opa.toList 12 b (F i).o = true) ∨ noHit opa.toList (F b) (F i) = true) (hback : backOK 0 opa.toList = true) {Q : Exit → Act → World → Prop} (hQ : ∀ a' w', RelE E B N w0 S0 β0 sF a' w' → Q .normal a' w') :
    ∀ (fuel : Nat) (listed : Array Bool) (s : St) (a : Act) (w : World), listed.size = opa.size → (∀ x o, opa[x]? = some o → listed.getD x false = true → ∀ e ∈ o.after, Region.binds .any e = true → listed.getD e.on false = true) → (left listed opa.size).length ≤ fuel → RelE E B N w0 S0 β0 s a w → Run E opa.toList (left listed opa.size) s ((left listed opa.size).map F) sF → wpAny P .any opa Q fuel listed a w := by
  intro fuel
  induction fuel with
  | zero =>
    intro listed s a w hsz hcl hlen rel hrun
    have hnil : left listed opa.size = [] := List.eq_nil_of_length_eq_zero (by omega)
    rw [hnil] at hrun
    refine ⟨?_, hQ a w (by obtain ⟨S, β, r⟩ := rel; exact ⟨S, β, r.eqv hrun.2⟩)⟩
    rw [List.eq_nil_iff_forall_not_mem]
    intro i hi
    obtain ⟨h1, o, h2, _⟩ := mem_ready.1 hi
    have : i ∈ left listed opa.size := mem_left.2 ⟨(Array.getElem?_eq_some_iff.1 h2).1, h1⟩
    rw [hnil] at this
    cases this
  | succ fuel ih =>
    intro listed s a w hsz hcl hlen rel hrun
    refine ⟨fun hready => ?_, fun i hi => ?_⟩
    · -- nothing is ready: nothing is left
      have hnil : left listed opa.size = [] := by
        cases hl : left listed opa.size with
        | nil => rfl
        | cons i0 r =>
          exfalso
          have hmem : i0 ∈ left listed opa.size := by rw [hl]; simp
          have hmem' := mem_left.1 hmem
          have hsorted : (left listed opa.size).Pairwise (· < ·) := (List.pairwise_lt_range (n := opa.size)).filter _
          rw [hl] at hsorted
          have ho : opa[i0]? = some opa[i0] := Array.getElem?_eq_getElem hmem'.1
          have : i0 ∈ Region.ready .any opa listed := by
            refine mem_ready.2 ⟨hmem'.2, _, ho, fun e he hb => ?_⟩
            have hlt := backOK_spec hback i0 _ (by simp) e he hb
            simp only [Nat.zero_add] at hlt
            by_cases hle : listed.getD e.on true = false
            · have hon : e.on ∈ left listed opa.size := mem_left.2 ⟨by omega, hle⟩
              rw [hl] at hon
              rcases List.mem_cons.1 hon with h | h
              · omega
              · have := (List.pairwise_cons.1 hsorted).1 _ h; omega
            · have hin : e.on < listed.size := by omega
              simp only [Array.getD_eq_getD_getElem?, Array.getElem?_eq_getElem hin, Option.getD_some] at hle ⊢
              simpa using hle
          rw [hready] at this
          cases this
      rw [hnil] at hrun
      obtain ⟨S, β, r⟩ := rel
      exact hQ a w ⟨S, β, r.eqv hrun.2⟩
    · obtain ⟨h1, o, h2, h3⟩ := mem_ready.1 hi
      have hin : i < opa.size := (Array.getElem?_eq_some_iff.1 h2).1
      have hmem : i ∈ left listed opa.size := mem_left.2 ⟨hin, h1⟩
      have hsorted : (left listed opa.size).Pairwise (· < ·) := (List.pairwise_lt_range (n := opa.size)).filter _
      obtain ⟨pre, post, hsplit⟩ := List.append_of_mem hmem
      rw [hsplit] at hsorted
      have hpre : ∀ b ∈ pre, b < i := fun b hb => (List.pairwise_append.1 hsorted).2.2 b hb i (by simp)
      have hpost : ∀ b ∈ post, i < b := fun b hb => (List.pairwise_cons.1 (List.pairwise_append.1 hsorted).2.1).1 b hb
      have hset : left (listed.setIfInBounds i true) opa.size = pre ++ post := by
        rw [left_set hsz hin, hsplit]
        simp only [List.filter_append, List.filter_cons, ne_eq, not_true_eq_false, decide_false, Bool.false_eq_true, if_false]
        congr 1
        · exact List.filter_eq_self.2 fun b hb => by have := hpre b hb; simp; omega
        · exact List.filter_eq_self.2 fun b hb => by have := hpost b hb; simp; omega
      rw [hsplit, List.map_append, List.map_cons] at hrun
      have hno : ∀ f ∈ pre.map F, noHit opa.toList f (F i) = true := by
        intro f hf
        obtain ⟨b, hb, rfl⟩ := List.mem_map.1 hf
        rcases hpair b i (hpre b hb) hin with (he | he) | he
        · exfalso
          rw [hF i o h2] at he
          obtain ⟨e, e1, e2, e3⟩ := edge_after he
          have := h3 e e1 e3
          rw [e2] at this
          have hbl : b ∈ left listed opa.size := by rw [hsplit]; simp [hb]
          have hbl := mem_left.1 hbl
          have hbin : b < listed.size := by omega
          simp only [Array.getD_eq_getD_getElem?, Array.getElem?_eq_getElem hbin, Option.getD_some] at this hbl
          rw [hbl.2] at this
          cases this
        · exfalso
          rw [hF i o h2] at he
          have hbl : b ∈ left listed opa.size := by rw [hsplit]; simp [hb]
          have hbl := mem_left.1 hbl
          have hbin : b < listed.size := by omega
          have := path_listed hcl 12 o he (fun e e1 e3 => by
            have h4 := h3 e e1 e3
            have hlt := backOK_spec hback i o (by simpa using h2) e e1 e3
            have hein : e.on < listed.size := by omega
            simp only [Array.getD_eq_getD_getElem?, Array.getElem?_eq_getElem hein, Option.getD_some] at h4 ⊢
            exact h4)
          simp only [Array.getD_eq_getD_getElem?, Array.getElem?_eq_getElem hbin, Option.getD_some] at this hbl
          rw [hbl.2] at this
          cases this
        · exact he
      obtain ⟨o', s1, wr, f, tr', r1, r2, r3, r4, r5⟩ := Run.first (by simp) hrun hno
      have ho' : o' = o := by
        have : opa[i]? = some o' := by simpa using r1
        rw [h2] at this
        cases this; rfl
      subst ho'
      simp only [List.cons.injEq] at r4
      obtain ⟨_, rfl⟩ := r4
      obtain ⟨S, β, rel'⟩ := rel
      refine wpOp_of h2 (stepG_sound ok rel' (fun d hdd => hd o' (by simpa using Array.mem_of_getElem? h2) d hdd) (fun j d hj => hd.at hj) r2) fun a' w' rel1 => ?_
      refine ih _ s1 a' w' (by simpa using hsz) ?_ ?_ rel1 ?_
      · intro x ox hx hxl e he hbe
        have keep : ∀ m, listed.getD m false = true → (listed.setIfInBounds i true).getD m false = true := fun m hm => by
          by_cases hmi : m = i
          · subst hmi
            simp [Array.getD_eq_getD_getElem?, Array.getElem?_setIfInBounds, hsz, hin]
          · simpa [Array.getD_eq_getD_getElem?, Array.getElem?_setIfInBounds, Ne.symm hmi, hmi] using hm
        by_cases hxi : x = i
        · have e0 : o' = ox := by rw [hxi, h2] at hx; exact Option.some.inj hx
          rw [← e0] at he
          have h4 := h3 e he hbe
          have hlt := backOK_spec hback i o' (by simpa using h2) e he hbe
          have hein : e.on < listed.size := by omega
          refine keep _ ?_
          simp only [Array.getD_eq_getD_getElem?, Array.getElem?_eq_getElem hein, Option.getD_some] at h4 ⊢
          exact h4
        · refine keep _ (hcl x ox hx ?_ e he hbe)
          simpa [Array.getD_eq_getD_getElem?, Array.getElem?_setIfInBounds, Ne.symm hxi, hxi] using hxl
      · rw [hset]
        have := hlen
        rw [hsplit] at this
        simp only [List.length_append, List.length_cons] at this ⊢
        omega
      · rw [hset, List.map_append]
        exact r5
theorem draw_sound (ok : EnvOK P E) {opa : Array Oper} (hd : DstOK N opa) (hm : P.follows .mixedOrders = true) {id : Nat} {Q : Exit → Act → World → Prop} (rel : RelE E B N w0 S0 β0 s a w) (hs : (stepsD E opa.toList opa.toList s []).val = some s') (hQ : ∀ a' w', RelE E B N w0 S0 β0 s' a' w' → Q .normal a' w') :
    (Code.region id opa true).wp P Q a w := by
  obtain ⟨tq, k1, k2, k3, k4⟩ := run_of_steps opa.toList 0 s [] s' (fun j => by simp) hs
  simp only [List.append_nil, Array.length_toList] at k2 k3 k1
  refine wp_region_any hm ?_
  have hleft : left (Array.replicate opa.size false) opa.size = List.range opa.size := by
    unfold left
    refine List.filter_eq_self.2 fun i hi => ?_
    have hi : i < opa.size := by simpa using hi
    simp [Array.getD_eq_getD_getElem?, Array.getElem?_replicate, hi]
  have htq : (List.range opa.size).map (fun i => (tq[i]?).getD ⟨default, [], [], [], none, [], [], [], false, [], [], []⟩) = tq := by
    refine List.ext_getElem? fun i => ?_
    by_cases hi : i < opa.size
    · simp [List.getElem?_range hi, List.getElem?_eq_getElem (show i < tq.length by omega)]
    · rw [List.getElem?_eq_none (by simp; omega), List.getElem?_eq_none (by omega)]
  have rel' : RelE E B N w0 S0 β0 s a { w with drawn := w.drawn + 1 } := by
    obtain ⟨S, β, r⟩ := rel
    have g : Gr B w S β w.drew S β := gr_drew B w S β
    exact ⟨S, β, r.inv.drew, fun n => g.rv (r.tok n), r.gd, r.below.trans g.below, r.sub, r.news, r.fix, r.size, r.defers⟩
  refine draw_any ok hd (fun i => (tq[i]?).getD ⟨default, [], [], [], none, [], [], [], false, [], [], []⟩) ?_ ?_ k4 hQ opa.size _ s a _ (by simp) (fun x o _ hx => by simp [Array.getD_eq_getD_getElem?, Array.getElem?_replicate] at hx; split at hx <;> simp_all) (by rw [hleft]; simp) rel' ?_
  · -- each footprint is of its operation
    have key : ∀ (l : List Nat) (s : St) (tr : List FP) (s' : St), Run E opa.toList l s tr s' → ∀ (j i : Nat), l[j]? = some i → ∀ o, opa[i]? = some o → ∃ f, tr[j]? = some f ∧ f.o = o := by
      intro l
      induction l with
      | nil => intro s tr s' _ j i hj; simp at hj
      | cons i0 l ih =>
        intro s tr s' hr j i hj o ho
        obtain ⟨o', s1, wr, f, tr', r1, r2, r3, rfl, r5⟩ := hr
        cases j with
        | zero =>
          simp at hj
          subst hj
          have : o' = o := by
            have : opa[i0]? = some o' := by simpa using r1
            rw [ho] at this; cases this; rfl
          exact ⟨f, rfl, by rw [r3.o, this]⟩
        | succ j => simpa using ih s1 tr' s' r5 j i (by simpa using hj) o ho
    intro i o ho
    have hi : i < opa.size := (Array.getElem?_eq_some_iff.1 ho).1
    obtain ⟨f, h1, h2⟩ := key _ _ _ _ k1 i i (by rw [← List.range_eq_range', List.getElem?_range hi]) o ho
    simp only [h1, Option.getD_some]
    exact h2
  · intro b i hlt hi
    have hb' : tq[b]? = some tq[b] := List.getElem?_eq_getElem (by omega)
    have hi' : tq[i]? = some tq[i] := List.getElem?_eq_getElem (by omega)
    simp only [hb', hi', Option.getD_some]
    exact chkAll_spec k3 b i _ _ hlt (by rw [List.reverse_reverse]; exact hb') (by rw [List.reverse_reverse]; exact hi')
  · rw [hleft, htq, List.range_eq_range']
    exact k1
end

end

end Go.Proofs.YteoldedcobibaaaGreatDoor.M
