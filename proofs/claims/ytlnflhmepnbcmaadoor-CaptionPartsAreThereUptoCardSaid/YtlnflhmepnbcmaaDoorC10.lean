/- What is proved here: copies of captions that are kept; Shift of both (no statement of the seat). -/
import Derived.Test.YtlnflhmepnbcmaaDoorC9
namespace Go.Proofs.YtlnflhmepnbcmaaDoor
open Go Go.RowKit
set_option linter.unusedVariables false
set_option linter.unusedSimpArgs false

/-- Each element is changed, knowing the next one. -/
def F.mapN {α : Type} (f : Option α → α → α) : List α → List α
  | [] => []
  | c :: l => f l.head? c :: F.mapN f l

def F.mapF {α : Type} (f : Option α → α → α) (k : Nat) (out : List α) : List α := out.take k ++ F.mapN f (out.drop k)

theorem F.mapF_step {α : Type} {f : Option α → α → α} {k : Nat} {out : List α} {y : α} (h : out[k]? = some y) : F.mapF f (k + 1) (out.set k (f out[k + 1]? y)) = F.mapF f k out := by
  have hlt := (List.getElem?_eq_some_iff.1 h).1
  unfold F.mapF
  have e1 : (out.set k (f out[k + 1]? y)).take (k + 1) = out.take k ++ [f out[k + 1]? y] := by
    rw [List.take_add_one, List.take_set_of_le (Nat.le_refl _)]
    simp [hlt]
  have e2 : (out.set k (f out[k + 1]? y)).drop (k + 1) = out.drop (k + 1) := List.drop_set_of_lt (Nat.lt_succ_self _)
  have e3 : out.drop k = y :: out.drop (k + 1) := by
    rw [List.drop_eq_getElem_cons hlt]
    congr 1
    exact (List.getElem?_eq_some_iff.1 h).2
  rw [e1, e2, e3, F.mapN, List.head?_drop]
  simp

theorem F.mapF_end {α : Type} (f : Option α → α → α) (out : List α) : F.mapF f out.length out = out := by
  unfold F.mapF
  rw [List.drop_length, List.take_length]
  simp [F.mapN]

theorem F.mapF_zero {α : Type} (f : Option α → α → α) (out : List α) : F.mapF f 0 out = F.mapN f out := by simp [F.mapF]

theorem F.mapN_map {α : Type} (g : α → α) : ∀ l : List α, F.mapN (fun _ c => g c) l = l.map g
  | [] => rfl
  | c :: l => by rw [F.mapN, F.mapN_map g l]; rfl

theorem F.mapN_len {α : Type} (f : Option α → α → α) : ∀ l : List α, (F.mapN f l).length = l.length
  | [] => rfl
  | c :: l => by rw [F.mapN, List.length_cons, List.length_cons, F.mapN_len f l]

def F.shC (b : Int) (c : Cap) : Cap := ⟨IntKind.i64.wrap (c.fr + b), IntKind.i64.wrap (c.to + b), c.lines, c.row, c.bef, c.aft⟩

def F.fin (l : List Cap) : List Cap × Int := bif F.chkC l != 0 then ([], F.chkC l) else (l, 0)

def F.shift (l : List Cap) (b : Int) : List Cap × Int :=
  bif F.chkC l != 0 then ([], F.chkC l) else bif F.out b (-359999999) 359999999 then ([], 1) else F.fin (l.map (F.shC b))

namespace M

/-- A loop that changes what it goes through. -/
theorem loop_map {α : Type} {E : Env} {x : Code} {n e r : List Nat × List Nat} {m : Nat} {st : List α → Nat → St} {f : Option α → α → α} {fin : List α → Ex × St} {I : List α → Nat → Prop}
    (hfin : ∀ out, out.length = m → ((exec E x (st out m)).bind (lessX n e r)).val = some (fin out)) (hf1 : ∀ a, (fin a).1 ≠ .normal ∧ closedB (fin a).2 = true) (hs : ∀ a k, closedB (st a k) = true)
    (hgo : ∀ out k y, out.length = m → I out k → out[k]? = some y → ((exec E x (st out k)).bind (lessX n e r)).val = some (.normal, st (out.set k (f out[k + 1]? y)) (k + 1)) ∧ I (out.set k (f out[k + 1]? y)) (k + 1)) :
    ∀ out k, out.length = m → k ≤ m → I out k → ∀ ex s', (T.ret (fin (F.mapF f k out))).val = some (ex, s') → LoopOK E x (st out k) ex s' := by
  intro out k h1 h2 hI
  refine loop_gen (st := fun a : List α × Nat => st a.1 a.2) (out := fun a => T.ret (fin (F.mapF f a.2 a.1))) (I := fun a => a.1.length = m ∧ a.2 ≤ m ∧ I a.1 a.2) (n := n) (e := e) (r := r) (fun a => m - a.2) ?_ (out, k) ⟨h1, h2, hI⟩
  rintro ⟨out, k⟩ ⟨h1, h2, hI⟩
  simp only at h1 h2 hI
  by_cases hlt : k < m
  · have hy : out[k]? = some out[k] := List.getElem?_eq_getElem (by omega)
    generalize out[k] = y at hy
    right
    have hg := hgo out k y h1 hI hy
    exact ⟨(out.set k (f out[k + 1]? y), k + 1), hg.1, hs _ _, ⟨by simp only [List.length_set]; exact h1, hlt, hg.2⟩, by simp only; omega, by simp only [F.mapF_step hy]⟩
  · have : k = m := by omega
    subst this
    left
    refine ⟨_, hfin out h1, ?_, (hf1 _).1, (hf1 _).2⟩
    subst h1
    simp only [F.mapF_end]
    rfl

/-- A function's own result, before it is handed on. -/
noncomputable def rawF (E : Env) (fn : Func) (args : List AV) : T AV :=
  match fn.body with
  | none => .fail
  | some c => match dstsOK fn.ntmps c with
    | true => (exec E c ⟨numbered 0 (args.map noGd) [], []⟩).bind fun p => match p.1 with
      | .ret => (ress E p.2 fn.results.toList).bind fun us => .ret (resAV us)
      | _ => .fail
    | false => .fail

/-- An empty result stands for a new slice without elements. -/
theorem rawF_e0 {P : Program} {E : Env} (ok : EnvOK P E) (hm : P.follows .mixedOrders = true) {f : FuncId} {fn : Func} (hf : P.funcs[f]? = some fn) (hlp : ∀ x ∈ Func.loops fn, ∀ s e s', (E.lp (lid x) s).val = some (e, s') → LoopOK E x s e s')
    {args : List AV} {ty n : Nat} (hr : (rawF E fn args).val = some .e0) : SpecP P E.glob f args (.own 0) [(0, ⟨false, ty, n, []⟩)] := by
  intro w S cargs hlt hglob hargs
  unfold rawF at hr
  split at hr
  · rw [T.fail_some] at hr; exact hr.elim
  · rename_i c hc
    split at hr
    · rename_i hd
      rw [T.bind_some] at hr
      obtain ⟨⟨e, s2⟩, h1, h2⟩ := hr
      simp only [] at h2
      cases e with
      | normal => rw [T.fail_some] at h2; exact h2.elim
      | exit i => rw [T.fail_some] at h2; exact h2.elim
      | ret =>
        rw [T.bind_some] at h2
        obtain ⟨xs, h3, h4⟩ := h2
        have inv0 : Inv E (fun b => b < w.heap.size) w S noKeys [] := ⟨fun _ h => h, hlt, (fun _ _ _ _ h => by cases h), (fun _ _ h => by cases h), (fun _ _ h => by cases h), (fun k bl hk => by simp [mget] at hk), hglob⟩
        refine run_start ok hm hf hlp hc hd inv0 hargs h1 h3 fun w' S2 β2 a' u rel hu2 => ?_
        have inv := rel.inv
        refine ⟨u, ?_⟩
        rw [T.ret_some] at h4
        rw [h4] at hu2
        obtain ⟨A, rfl⟩ : ∃ A, u = .slice A 0 0 := hu2
        refine ⟨S2, fun k => if k = 0 then some ⟨false, 0, 0, 0, 0⟩ else none, rfl, rel.below.below, rel.sub, fun b hb => (rel.news b hb).imp id (fun h => by omega), inv.lt, ?_, ?_, ?_, ?_, ?_⟩
        · intro k k' x x' hx hx' hr
          by_cases hk : k = 0
          · simp only [hk, if_true, Option.some.injEq] at hx
            subst hx; cases hr
          · simp [hk] at hx
        · intro k x hx hr
          by_cases hk : k = 0
          · simp only [hk, if_true, Option.some.injEq] at hx
            subst hx; cases hr
          · simp [hk] at hx
        · intro k x hx
          by_cases hk : k = 0
          · simp only [hk, if_true, Option.some.injEq] at hx
            subst hx
            exact ⟨⟨false, ty, n, []⟩, by subst hk; rfl, rfl, (fun hr => by cases hr), fun _ => rfl⟩
          · simp [hk] at hx
        · intro k bl hk
          by_cases hk0 : k = 0
          · exact ⟨⟨false, 0, 0, 0, 0⟩, by simp [hk0]⟩
          · exfalso
            revert hk
            cases k with
            | zero => exact absurd rfl hk0
            | succ k => intro hk; cases hk
        · exact ⟨⟨false, 0, 0, 0, 0⟩, rfl, (fun hr => by cases hr), fun _ => ⟨A, rfl⟩⟩
    · rw [T.fail_some] at hr; exact hr.elim

theorem evClK1 (xs : List Cap) : (runF en0 true Tryd.f50 [.nz false (xs.map eCap)]).val =
  bif Nat.ble (((0 : Nat) + List.length (List.map eCap xs)) * (56 : Nat)) (140737488355328 : Nat) && List.all (List.map eCap xs) fun (r : Row) => Nat.beq (List.length r)
  (TI.mk false (1 : Nat) [] [AV.e0] (67 : Nat) (6 : Nat) (56 : Nat) [(vI (0 : Int)), (vI (0 : Int)), AV.e0, (vI (0 : Int)), (vB false), (vB false)] none (4 : Nat) []).esize
  then some (.own 0, [(0, Blk.mk false 67 6 (List.map eCap xs))]) else none := by kernel_rfl

theorem evClK0 : (rawF en0 Tryd.f50 [.nz true []]).val = some .e0 := by kernel_rfl

def encClK1 (xs : List Cap) : List AV := [.sl (xs.map eCap)]

def encClK (a : (List Cap)) : List AV := encClK1 a

theorem encClK_inj (a a' : (List Cap)) (h : encClK a = encClK a') : a = a' := by
  simp only [encClK, encClK1] at h
  try simp [strs_inj, ints_inj, bools_inj, eCaps_inj, eCap_iff, eL_eCaps_inj, eMchs_inj, eMch_iff, eWrds_inj, eWrd_iff, eFnds_inj, eFnd_iff, eRatios_inj, eRatio_iff, eWays_inj, eWay_iff] at h
  grind

theorem unClK (xs : List Cap) : unenc encClK ([AV.sl (List.map eCap xs)]) = some (xs) := unenc_of encClK_inj (xs) rfl

def resClK1 (xs : List Cap) : AV × Heap := (.own 0, [(0, ⟨false, 67, 6, xs.map eCap⟩)])

def preClK1 (xs : List Cap) : Bool := decide (xs.length ≤ 500)

noncomputable def oClK : Orc := orc 50 false encClK (fun a => preClK1 a) fun a => resClK1 a

theorem okClK : OrcOK Tryd.prog noG oClK := by
  refine orc_ok ⟨Tryd.f50, by kernel_rfl, by kernel_rfl, by kernel_rfl⟩ (fun xs hp _ => ?_) (by intro h; cases h)
  simp only [preClK1, decide_eq_true_eq] at hp
  have hb : Nat.ble (xs.length * 56) 140737488355328 = true := ble_t (by omega)
  show SpecP _ _ _ [.sl (xs.map eCap)] (.own 0) [(0, ⟨false, 67, 6, xs.map eCap⟩)]
  refine SpecP.nil (fun e => ?_) ?_
  · have : xs = [] := by simpa using e
    subst this
    exact rawF_e0 (E := en0) en0_ok mixed (fn := Tryd.f50) (by kernel_rfl) (no_loops (by kernel_rfl)) evClK0
  · refine runF_sound (E := en0) en0_ok mixed (fn := Tryd.f50) (by kernel_rfl) (no_loops (by kernel_rfl)) (keep := true) ?_
    rw [evClK1]
    simp only [List.length_map, Nat.zero_add, hb, all_Caps, Bool.and_true, cond_true, List.nil_append]

noncomputable def enCkd : Env := envH ty noG lks [oChC] [] [] []

theorem enCkd_ok : EnvOK Tryd.prog enCkd := by
  refine envH_ok lks_ok ty_ok ?_ ?_
  · simp only [List.forall_mem_cons]
    exact ⟨okChC, by simp⟩
  · simp

def encCkd1 (l : List Cap) : List AV := [.sl (l.map eCap)]

def encCkd (a : (List Cap)) : List AV := encCkd1 a

theorem encCkd_inj (a a' : (List Cap)) (h : encCkd a = encCkd a') : a = a' := by
  simp only [encCkd, encCkd1] at h
  try simp [strs_inj, ints_inj, bools_inj, eCaps_inj, eCap_iff, eL_eCaps_inj, eMchs_inj, eMch_iff, eWrds_inj, eWrd_iff, eFnds_inj, eFnd_iff, eRatios_inj, eRatio_iff, eWays_inj, eWay_iff] at h
  grind

theorem unCkd (l : List Cap) : unenc encCkd ([AV.sl (List.map eCap l)]) = some (l) := unenc_of encCkd_inj (l) rfl

def resCkd1 (l : List Cap) : AV × Heap := (.tup [.sl ((F.fin l).1.map eCap), vI (F.fin l).2], [])

def preCkd1 (l : List Cap) : Bool := F.smC l

end M
end Go.Proofs.YtlnflhmepnbcmaaDoor
