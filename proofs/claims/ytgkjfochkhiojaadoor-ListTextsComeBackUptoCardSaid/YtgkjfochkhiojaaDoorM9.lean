/- What is proved here: the machine, with what a guard's test tells kept in mind, answers as the machine does (no statement of the seat). -/
import Derived.Test.YtgkjfochkhiojaaDoorM6
namespace Go.Proofs.YtgkjfochkhiojaaDoor.M
open Go Go.RowKit
set_option linter.unusedVariables false
set_option linter.unusedSimpArgs false

theorem T.valb {α β : Type} : ∀ (x : T α) (g : α → T β), (x.bind g).val = x.val.bind fun a => (g a).val
  | .ret _, _ => rfl
  | .fail, _ => rfl
  | .ifB b x y, g => by
    cases b
    · exact T.valb y g
    · exact T.valb x g
  | .opt o f, g => by
    cases o with
    | none => rfl
    | some z => exact T.valb (f z) g

theorem T.bind_val {α β : Type} {x y : T α} {g h : α → T β} (h1 : x.val = y.val) (h2 : ∀ a, (g a).val = (h a).val) : (x.bind g).val = (y.bind h).val := by
  rw [T.valb, T.valb, h1]
  cases y.val with
  | none => rfl
  | some a => exact h2 a

theorem T.ifB_val {α : Type} {b : Bool} {x y x' y' : T α} (h1 : b = true → x.val = x'.val) (h2 : b = false → y.val = y'.val) : (T.ifB b x y).val = (T.ifB b x' y').val := by
  cases b
  · exact h2 rfl
  · exact h1 rfl

/-- A temporary's value, written anew. -/
def setF : Tmps → Nat → AV → Tmps
  | [], _, _ => []
  | (k, x) :: r, n, v => match Nat.beq n k with
    | true => (k, v) :: r
    | false => (k, x) :: setF r n v

theorem setF_same : ∀ {t : Tmps} {d : Nat} {v : AV}, mget t d = some v → setF t d v = t
  | [], _, _, h => by cases h
  | (k, x) :: r, d, v, h => by
    unfold mget at h
    unfold setF
    split
    · rename_i hb
      rw [hb] at h
      simp only [Option.some.injEq] at h
      rw [h]
    · rename_i hb
      rw [hb] at h
      rw [setF_same h]

theorem setF_getT {t : Tmps} {d : Nat} {v : AV} (h : getT t d = v) (hv : v ≠ .unk) : setF t d v = t := by
  unfold getT at h
  split at h
  · rename_i a ha
    rw [h] at ha
    exact setF_same ha
  · exact absurd h.symm hv

/-- An operation under a guard; what its test tells is kept in mind. -/
def guardedR (E : Env) (s : St) (o : Oper) (d : Nat) (f want : Bool) (v1 v0 : AV) : T (St × Option (List Nat × List Nat)) :=
  match safeAt E s o d want with
  | true => match (eff E (ρOf E (some (d, want)) s.t) (mget s.h) o).val with
    | some p => match isFlat p.1 with
      | true => .ret (⟨setD s.t o.dst (.gd d f want p.1), s.h⟩, some ([], []))
      | false => .fail
    | none => .ifB f .fail (skipO ⟨setF s.t d v0, s.h⟩ o d want)
  | false => .ifB f (step1 E (some (d, want)) ⟨setF s.t d v1, s.h⟩ o) (skipO ⟨setF s.t d v0, s.h⟩ o d want)

theorem guardedR_val {E : Env} {s : St} {o : Oper} {d : Nat} {f want : Bool} {v1 v0 : AV} (h1 : f = true → setF s.t d v1 = s.t) (h0 : f = false → setF s.t d v0 = s.t) :
    (guardedR E s o d f want v1 v0).val = (guarded E s o d f want).val := by
  unfold guardedR guarded
  cases safeAt E s o d want with
  | true =>
    simp only
    cases (eff E (ρOf E (some (d, want)) s.t) (mget s.h) o).val with
    | some p => rfl
    | none => exact T.ifB_val (fun _ => rfl) (fun h => by rw [h0 h])
  | false => exact T.ifB_val (fun h => by rw [h1 h]) (fun h => by rw [h0 h])

def stepGR (E : Env) (ops : List Oper) (s : St) (o : Oper) : T (St × Option (List Nat × List Nat)) := match o.guard with
  | none => step1 E none s o
  | some (j, want) => match dstOf ops j with
    | some d => match getT s.t d with
      | .v (.bool b) => guardedR E s o d (asked b want) want (.v (.bool want)) (.v (.bool (!want)))
      | .gd j' f w (.v (.bool b)) => guardedR E s o d (f && asked b want) want (.gd j' true w (.v (.bool want))) (.gd j' f w (.v (.bool b)))
      | .gd _ f _ _ => .ifB f .fail (skipO s o d want)
      | _ => .fail
    | none => .fail

theorem stepGR_val {E : Env} {ops : List Oper} {s : St} {o : Oper} : (stepGR E ops s o).val = (stepG E ops s o).val := by
  unfold stepGR stepG
  cases o.guard with
  | none => rfl
  | some jw =>
    obtain ⟨j, want⟩ := jw
    simp only
    cases dstOf ops j with
    | none => rfl
    | some d =>
      simp only
      generalize hb : getT s.t d = x
      split
      · rename_i b
        refine guardedR_val (fun h => ?_) (fun h => ?_)
        · have : b = want := by cases b <;> cases want <;> simp [asked] at h <;> rfl
          subst this
          exact setF_getT hb (by simp)
        · have : b = !want := by cases b <;> cases want <;> simp [asked] at h <;> rfl
          subst this
          exact setF_getT hb (by simp)
      · rename_i j' f w b
        refine guardedR_val (fun h => ?_) (fun _ => setF_getT hb (by simp))
        rw [Bool.and_eq_true] at h
        obtain ⟨hf, h⟩ := h
        have : b = want := by cases b <;> cases want <;> simp [asked] at h <;> rfl
        subst this
        subst hf
        exact setF_getT hb (by simp)
      · split <;> first | rfl | (rename_i hq; cases hq; rfl) | (exfalso; grind)
      · split <;> first | rfl | (rename_i hq; cases hq; rfl) | (exfalso; grind)

def stepNR (E : Env) (ops : List Oper) (s : St) (o : Oper) : T (St × Option (List Nat × List Nat)) := match renewOf E s.t (mget s.h) o with
  | some p => kfin E s o.dst p
  | none => stepGR E ops (s.freezes (storeFrz E s.t (mget s.h) o)) o

theorem stepNR_val {E : Env} {ops : List Oper} {s : St} {o : Oper} : (stepNR E ops s o).val = (stepN E ops s o).val := by
  unfold stepNR stepN
  cases renewOf E s.t (mget s.h) o with
  | some p => rfl
  | none => exact stepGR_val

def stepsR (E : Env) (ops : List Oper) : List Oper → St → T St
  | [], s => .ret s
  | o :: r, s => (stepNR E ops s o).bind fun p => stepsR E ops r p.1

theorem stepsR_val {E : Env} {ops : List Oper} : ∀ {l : List Oper} {s : St}, (stepsR E ops l s).val = (steps E ops l s).val
  | [], _ => rfl
  | o :: r, s => T.bind_val stepNR_val fun _ => stepsR_val

def stepsDR (E : Env) (ops : List Oper) : List Oper → St → List FP → T St
  | [], s, tr => match chkAll ops tr && backOK 0 ops with
    | true => .ret s
    | false => .fail
  | o :: r, s, tr => (stepGR E ops s o).bind fun p => stepsDR E ops r p.1 (fpOf ops s o p.2 p.1 :: tr)

theorem stepsDR_val {E : Env} {ops : List Oper} : ∀ {l : List Oper} {s : St} {tr : List FP}, (stepsDR E ops l s tr).val = (stepsD E ops l s tr).val
  | [], _, _ => rfl
  | o :: r, s, tr => T.bind_val stepGR_val fun _ => stepsDR_val

/-- Code, with what tests of guards tell. -/
def execR (E : Env) : Code → St → T (Ex × St)
  | .skip, s => done s
  | .region _ ops dr, s => match dr with
    | false => (stepsR E ops.toList ops.toList s).bind done
    | true => (stepsDR E ops.toList ops.toList s []).bind done
  | .seq x y, s => (execR E x s).bind fun p => match p.1 with
    | .normal => execR E y p.2
    | _ => .ret p
  | .cond c x y, s => match boolOf (ev E s.t c) with
    | some b => .ifB b (execR E x s) (execR E y s)
    | none => .fail
  | .block id x, s => (execR E x s).bind fun p => match p.1 with
    | .exit i => match Nat.beq i id with
      | true => .ret (.normal, p.2)
      | false => .ret p
    | _ => .ret p
  | .loop x, s => E.lp (lid x) s
  | .exit id, s => .ret (.exit id, s)
  | .ret, s => .ret (.ret, s)
  | _, _ => .fail

theorem execR_val {E : Env} (c : Code) : ∀ s, (execR E c s).val = (exec E c s).val := by
  induction c with
  | skip => intro s; rfl
  | region id ops dr =>
    intro s
    cases dr
    · exact T.bind_val stepsR_val fun _ => rfl
    · exact T.bind_val stepsDR_val fun _ => rfl
  | seq x y ihx ihy =>
    intro s
    refine T.bind_val (ihx s) fun p => ?_
    cases p.1
    · exact ihy p.2
    · rfl
    · rfl
  | cond c x y ihx ihy =>
    intro s
    show (match boolOf (ev E s.t c) with | some b => T.ifB b (execR E x s) (execR E y s) | none => .fail).val = (match boolOf (ev E s.t c) with | some b => T.ifB b (exec E x s) (exec E y s) | none => .fail).val
    cases boolOf (ev E s.t c) with
    | none => rfl
    | some b => exact T.ifB_val (fun _ => ihx s) (fun _ => ihy s)
  | block id x ih => intro s; exact T.bind_val (ih s) fun _ => rfl
  | loop x ih => intro s; rfl
  | _ => intros; rfl

theorem execR_bind {α : Type} {E : Env} (c : Code) (s : St) (g : Ex × St → T α) : ((execR E c s).bind g).val = ((exec E c s).bind g).val := T.bind_val (execR_val c s) fun _ => rfl

def runFR (E : Env) (keep : Bool) (fn : Func) (args : List AV) : T (AV × Heap) :=
  match fn.body with
  | none => .fail
  | some c => match dstsOK fn.ntmps c with
    | true => (execR E c ⟨numbered 0 (args.map noGd) [], []⟩).bind fun p => match p.1 with
      | .ret => (ress E p.2 fn.results.toList).bind fun us => finish keep p.2 (resAV us)
      | _ => .fail
    | false => .fail

theorem runFR_val {E : Env} {keep : Bool} {fn : Func} {args : List AV} : (runFR E keep fn args).val = (runF E keep fn args).val := by
  unfold runFR runF
  cases fn.body with
  | none => rfl
  | some c =>
    simp only
    cases dstsOK fn.ntmps c with
    | false => rfl
    | true => exact T.bind_val (execR_val _ _) fun _ => rfl

def runHR (E : Env) (mv : List Nat) (fn : Func) (args : List AV) (hin : Heap) : T (AV × Heap × List Nat) :=
  match fn.body with
  | none => .fail
  | some c => match dstsOK fn.ntmps c && (hin.map (·.1)).all (fun k => isIn k && (mv.elem k || !(E.mv k))) with
    | true => (execR E c ⟨numbered 0 (args.map noGd) [], hin⟩).bind fun p => match p.1 with
      | .exit _ => .fail
      | _ => (ress E p.2 fn.results.toList).bind fun us => finishH (hin.map (·.1)) mv p.2 (resAV us)
    | false => .fail

theorem runHR_val {E : Env} {mv : List Nat} {fn : Func} {args : List AV} {hin : Heap} : (runHR E mv fn args hin).val = (runH E mv fn args hin).val := by
  unfold runHR runH
  cases fn.body with
  | none => rfl
  | some c =>
    simp only
    cases dstsOK fn.ntmps c && (hin.map (·.1)).all (fun k => isIn k && (mv.elem k || !(E.mv k))) with
    | false => rfl
    | true => exact T.bind_val (execR_val _ _) fun _ => rfl

end Go.Proofs.YtgkjfochkhiojaaDoor.M
