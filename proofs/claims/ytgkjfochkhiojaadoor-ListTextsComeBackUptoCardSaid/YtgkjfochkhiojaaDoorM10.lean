/- Contracts of functions that are handed memory, with answers that are trees (no statement of the seat). -/
import Derived.Test.YtgkjfochkhiojaaDoorM6
namespace Go.Proofs.YtgkjfochkhiojaaDoor.M
open Go Go.RowKit
set_option linter.unusedVariables false
set_option linter.unusedSimpArgs false
noncomputable def orcT {α : Type} (f : FuncId) (enc : α → List AV × Heap) (pre : α → Bool) (res : α → T (AV × Heap × List Nat)) : OrcH :=
  ⟨f, fun args h => .opt (unenc enc (args, h)) fun a => .ifB (pre a) (res a) .fail⟩
theorem orcT_ok {α : Type} {P : Program} {G : Nat → Option GR} {f : FuncId} {enc : α → List AV × Heap} {pre : α → Bool} {res : α → T (AV × Heap × List Nat)} (hh : Here P f)
    (h : ∀ a r, pre a = true → (∀ x ∈ (enc a).1, OkA x) → (∀ k bl, mget (enc a).2 k = some bl → OkK bl) → (res a).val = some r → SpecH P G f (enc a).1 (enc a).2 r.1 r.2.1 r.2.2) : OrcHOK P G (orcT f enc pre res) := by
  refine ⟨fun args hin r H mv hr => ?_, hh⟩
  simp only [orcT, T.opt_some] at hr
  obtain ⟨a, h1, h2⟩ := hr
  rw [T.ifB_some] at h2
  rcases h2 with ⟨h2, h3⟩ | ⟨h2, h3⟩
  · have e := unenc_some h1
    have := SpecH.ok (fun hok hokk => h a _ h2 hok hokk h3)
    rw [← e] at this
    exact this
  · rw [T.fail_some] at h3; exact h3.elim
theorem mkT_ok {α : Type} {P : Program} {E : Env} {f : FuncId} {mv : List Nat} {enc : α → List AV × Heap} {pre : α → Bool} {res : α → T (AV × Heap × List Nat)} (fn : Func) (hf : P.funcs[f]? = some fn)
    (hn : ((fn.name == "runtime.NumGoroutine") || fn.body.isNone) = false) (ok : EnvOK P E) (hm : P.follows .mixedOrders = true)
    (hlp : ∀ x ∈ Func.loops fn, ∀ s e s', (E.lp (lid x) s).val = some (e, s') → LoopOK E x s e s')
    (h : ∀ a r, pre a = true → (∀ x ∈ (enc a).1, OkA x) → (∀ k bl, mget (enc a).2 k = some bl → OkK bl) → (res a).val = some r → (runH E mv fn (enc a).1 (enc a).2).val = some r) : OrcHOK P E.glob (orcT f enc pre res) := by
  simp only [Bool.or_eq_false_iff] at hn
  exact orcT_ok ⟨fn, hf, hn.1, hn.2⟩ (fun a r h1 h2 h3 h4 => runH_sound ok hm hf hlp (mv := mv) (h a r h1 h2 h3 h4))
/-- A cell that is an empty slice, taken as one that is read only. -/
def unE0 : AV → AV
  | .e0 => .sl []
  | a => a
def Blk.unE0 (b : Blk) : Blk := match b.box with
  | true => ⟨true, b.ty, b.sz, b.rows.map (·.map M.unE0)⟩
  | false => b
def weakH (x : AV × Heap × List Nat) : AV × Heap × List Nat := (x.1, x.2.1.map fun p => (p.1, p.2.unE0), x.2.2)
theorem rc_unE0 {w : World} {S : Nat → Prop} {β : Nat → Option BI} {a : AV} {v : Value} (h : RC w S β a v) : RC w S β (unE0 a) v := by
  cases a
  case e0 =>
    obtain ⟨A, rfl⟩ := h
    exact R0.sl (rows := []) (A := A) (cap := 0) (size := 0) (b := 0) (off := 0) (vals := fun _ _ => undef) (Nat.le_refl _) (Nat.zero_le _) (fun h => absurd rfl h) (fun i row hi => by simp at hi) (fun i j row a hi => by simp at hi) (fun i j row a hi => by simp at hi)
  all_goals exact h
theorem SpecH.weak {P : Program} {G : Nat → Option GR} {f : FuncId} {args : List AV} {hin : Heap} {r : AV × Heap × List Nat} (h : SpecH P G f args hin r.1 r.2.1 r.2.2) : SpecH P G f args hin (weakH r).1 (weakH r).2.1 (weakH r).2.2 := by
  intro w S β cargs inv hargs
  refine (h w S β cargs inv hargs).mono ?_
  rintro e w' ⟨v, S', β', he, h1, h2, h3, inv', h4, h5⟩
  refine ⟨v, S', β', he, h1, h2, h3, ⟨inv'.base, inv'.lt, inv'.inj, inv'.new, fun k x hx => ?_, fun k bl hk => ?_, inv'.glob⟩, h4, h5⟩
  · obtain ⟨bl, a1, a2, a3⟩ := inv'.dom k x hx
    refine ⟨bl.unE0, by show mget (r.2.1.map fun p => (p.1, p.2.unE0)) k = _; rw [mget_map, a1]; rfl, fun hr => ?_, fun hr => ?_⟩
    · obtain ⟨cs, ty, c1, c2, c3, c4, c5, c6, c7, c8⟩ := a2 hr
      unfold Blk.unE0
      split
      · rename_i hb
        refine ⟨cs, ty, c1, c2, by simpa using c3, c4, c5, (fun hh => absurd hh (by simp)), (fun _ => c7 hb), (fun i row hi => ?_)⟩
        simp only [List.getElem?_map, Option.map_eq_some_iff] at hi
        obtain ⟨row0, hi0, rfl⟩ := hi
        obtain ⟨c9, c10⟩ := c8 i row0 hi0
        refine ⟨by simpa using c9, fun q y0 hq => ?_⟩
        simp only [List.getElem?_map, Option.map_eq_some_iff] at hq
        obtain ⟨y1, hq1, rfl⟩ := hq
        obtain ⟨v1, hv1, hr1⟩ := c10 q y1 hq1
        rw [hb] at hr1
        exact ⟨v1, hv1, rc_unE0 (by simpa using hr1)⟩
      · exact ⟨cs, ty, c1, c2, c3, c4, c5, c6, c7, c8⟩
    · obtain ⟨b1, b2⟩ := a3 hr
      unfold Blk.unE0
      rw [b2]
      exact ⟨b1, b2⟩
  · have hk : mget (r.2.1.map fun p => (p.1, p.2.unE0)) k = some bl := hk
    rw [mget_map, Option.map_eq_some_iff] at hk
    obtain ⟨b0, hb0, _⟩ := hk
    exact inv'.cov k b0 hb0
theorem mkE_ok {α : Type} {P : Program} {E : Env} {f : FuncId} {mv : List Nat} {enc : α → List AV × Heap} {pre : α → Bool} {res : α → T (AV × Heap × List Nat)} (fn : Func) (hf : P.funcs[f]? = some fn)
    (hn : ((fn.name == "runtime.NumGoroutine") || fn.body.isNone) = false) (ok : EnvOK P E) (hm : P.follows .mixedOrders = true)
    (hlp : ∀ x ∈ Func.loops fn, ∀ s e s', (E.lp (lid x) s).val = some (e, s') → LoopOK E x s e s')
    (h : ∀ a r, pre a = true → (∀ x ∈ (enc a).1, OkA x) → (∀ k bl, mget (enc a).2 k = some bl → OkK bl) → (res a).val = some r → ((runH E mv fn (enc a).1 (enc a).2).val.map weakH) = some r) : OrcHOK P E.glob (orcT f enc pre res) := by
  simp only [Bool.or_eq_false_iff] at hn
  refine orcT_ok ⟨fn, hf, hn.1, hn.2⟩ (fun a r h1 h2 h3 h4 => ?_)
  have := h a r h1 h2 h3 h4
  rw [Option.map_eq_some_iff] at this
  obtain ⟨r0, hr0, rfl⟩ := this
  exact (runH_sound ok hm hf hlp (mv := mv) hr0).weak
end Go.Proofs.YtgkjfochkhiojaaDoor.M
