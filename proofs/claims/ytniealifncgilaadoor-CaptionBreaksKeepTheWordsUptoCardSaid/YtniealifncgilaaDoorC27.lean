/- What is proved here: Drift of the program (no statement of the seat). -/
import Derived.Test.YtniealifncgilaaDoorC26
namespace Go.Proofs.YtniealifncgilaaDoor
open Go Go.RowKit
set_option linter.unusedVariables false
set_option linter.unusedSimpArgs false

def F.m0 : Mch := ⟨0, 0⟩

/-- Where the last caption begins, and the first that begins there. -/
def F.drL (a : List Cap) : Int := (a.getD (a.length - 1) default).fr

def F.drK (a : List Cap) : Nat := F.got (F.findI (fun c => F.frIs (F.drL a) c) 0 a) 0

def F.drU (a b : List Cap) : Mch := ⟨(a.getD 0 default).fr, (b.getD 0 default).fr⟩

def F.drV (a b : List Cap) : Mch := ⟨F.drL a, (b.getD (F.drK a) default).fr⟩

def F.drOut (a b : List Cap) : Mch × Mch × Bool × Int :=
  bif (F.stretch a (F.drU a b) (F.drV a b)).2 != 0 || !(F.eqcL false (F.stretch a (F.drU a b) (F.drV a b)).1 b) then (F.m0, F.m0, false, 0) else (F.drU a b, F.drV a b, true, 0)

def F.drift (a b : List Cap) : Mch × Mch × Bool × Int :=
  bif F.chkC a != 0 then (F.m0, F.m0, false, F.chkC a) else bif F.chkC b != 0 then (F.m0, F.m0, false, F.chkC b) else
  bif a.isEmpty || b.isEmpty then (F.m0, F.m0, false, 9) else bif F.eqcL true a b then F.drOut a b else (F.m0, F.m0, false, 3)

theorem F.findI_none {α : Type} {p : α → Bool} : ∀ {l : List α} {k : Nat}, F.findI p k l = none → ∀ x ∈ l, p x = false
  | [], _, _, x, hx => by cases hx
  | y :: l, k, h, x, hx => by
    rw [F.findI] at h
    cases hp : p y
    · rw [hp, cond_false] at h
      rcases List.mem_cons.1 hx with rfl | hx
      · exact hp
      · exact F.findI_none h x hx
    · rw [hp] at h; cases h

theorem F.findI_some {α : Type} {p : α → Bool} : ∀ {l : List α} {k r : Nat}, F.findI p k l = some r → k ≤ r ∧ r < k + l.length
  | [], _, _, h => by cases h
  | y :: l, k, r, h => by
    rw [F.findI] at h
    cases hp : p y
    · rw [hp, cond_false] at h
      have := F.findI_some h
      simp only [List.length_cons]; omega
    · rw [hp] at h
      simp only [cond_true, Option.some.injEq] at h
      simp only [List.length_cons]; omega

/-- There is one that begins where the last one does. -/
theorem F.dr_idx {a : List Cap} (h : a.isEmpty = false) : F.idxI (F.findI (fun c => F.frIs (F.drL a) c) 0 a) = (F.drK a : Int) ∧ F.drK a < a.length := by
  have hn : a ≠ [] := by intro e; rw [e] at h; cases h
  have hl : 0 < a.length := List.length_pos_iff.2 hn
  cases hf : F.findI (fun c => F.frIs (F.drL a) c) 0 a with
  | none =>
    have hy : a[a.length - 1]? = some a[a.length - 1] := List.getElem?_eq_getElem (by omega)
    have := F.findI_none hf _ (List.mem_of_getElem? hy)
    have e : F.drL a = a[a.length - 1].fr := by unfold F.drL; rw [M.getD_at hy]
    unfold F.frIs at this
    rw [e] at this
    simp at this
  | some r =>
    have := F.findI_some hf
    unfold F.drK
    rw [hf]
    refine ⟨rfl, ?_⟩
    show r < a.length
    omega

namespace M

theorem isE_len {α : Type} (l : List α) : (((l.length : Nat) : Int) == 0) = l.isEmpty := by
  cases l with
  | nil => rfl
  | cons a l => simp; omega

noncomputable def enDrf : Env := envH ty noG lks [oChC, oFst, oEqF, oIxl, oSt] [] [] []

theorem enDrf_ok : EnvOK Tryd.prog enDrf := by
  refine envH_ok lks_ok ty_ok ?_ ?_
  · simp only [List.forall_mem_cons]
    exact ⟨okChC, okFst, okEqF, okIxl, okSt, by simp⟩
  · simp

theorem evDrf (a : List Cap) (b : List Cap) : (runF enDrf false Tryd.f38 [.sl (a.map eCap), .sl (b.map eCap)]).val =
  Option.bind (unenc encChC [AV.sl (List.map eCap a)]) fun (z : List Cap) => bif F.smC z then Option.bind (unenc encChC [AV.sl (List.map eCap b)]) fun (z_1 : List Cap) =>
  bif F.smC z_1 then Option.bind (unenc encFst [AV.sl [[(vI (F.chkC z))], [(vI (F.chkC z_1))]]]) fun (z : List Int) => bif ffI id z != (0 : Int) then some (AV.tup [AV.agg
  [(vI (0 : Int)), (vI (0 : Int))], AV.agg [(vI (0 : Int)), (vI (0 : Int))], (vB false), (vI (ffI id z))], []) else bif bif (↑(List.length (List.map eCap a)) : Int) == (0 :
  Int) then true else (↑(List.length (List.map eCap b)) : Int) == (0 : Int) then some (AV.tup [AV.agg [(vI (0 : Int)), (vI (0 : Int))], AV.agg [(vI (0 : Int)), (vI (0 :
  Int))], (vB false), (vI (9 : Int))], []) else Option.bind (unenc encEqF [AV.sl (List.map eCap a), AV.sl (List.map eCap b), AV.fn (76 : Nat) []]) fun (z : Bool × List Cap ×
  List Cap) => bif !F.eqcL z.fst z.snd.fst z.snd.snd then some (AV.tup [AV.agg [(vI (0 : Int)), (vI (0 : Int))], AV.agg [(vI (0 : Int)), (vI (0 : Int))], (vB false), (vI (3
  : Int))], []) else Option.bind (idx (IntKind.wrap IntKind.i64 ((↑(List.length (List.map eCap a)) : Int) - (1 : Int)))) fun (z : Nat) => Option.bind (unenc (List.map eCap)
  (List.map eCap a)) fun (z_2 : List Cap) => bif decide (z < List.length z_2) then Option.bind (unenc encIxl [AV.sl (List.map eCap a), AV.fn (78 : Nat) [AV.pel [(vI
  (List.getD z_2 z (Cap.mk (0 : Int) (0 : Int) [] (0 : Int) false false)).fr)] (0 : Nat)]]) fun (z_3 : List Cap × Int) => Option.bind (unenc (List.map eCap) (List.map eCap
  a)) fun (z_4 : List Cap) => bif decide ((0 : Nat) < List.length z_4) then Option.bind (unenc (List.map eCap) (List.map eCap b)) fun (z_5 : List Cap) => bif decide ((0 :
  Nat) < List.length z_5) then Option.bind (idx (F.idxI (F.findI (fun (c : Cap) => F.frIs z_3.snd c) (0 : Nat) z_3.fst))) fun (z_6 : Nat) => Option.bind (unenc (List.map
  eCap) (List.map eCap b)) fun (z_7 : List Cap) => bif decide (z_6 < List.length z_7) then Option.bind (unenc encSt [AV.sl (List.map eCap a), AV.agg [(vI (List.getD z_4 (0 :
  Nat) (Cap.mk (0 : Int) (0 : Int) [] (0 : Int) false false)).fr), (vI (List.getD z_5 (0 : Nat) (Cap.mk (0 : Int) (0 : Int) [] (0 : Int) false false)).fr)], AV.agg [(vI
  (List.getD z_2 z (Cap.mk (0 : Int) (0 : Int) [] (0 : Int) false false)).fr), (vI (List.getD z_7 z_6 (Cap.mk (0 : Int) (0 : Int) [] (0 : Int) false false)).fr)]]) fun (z_8
  : List Cap × Mch × Mch) => bif F.smC z_8.fst then bif !(F.stretch z_8.fst z_8.snd.fst z_8.snd.snd).snd != (0 : Int) then Option.bind (unenc encEqF [AV.sl (List.map eCap
  (F.stretch z_8.fst z_8.snd.fst z_8.snd.snd).fst), AV.sl (List.map eCap b), AV.fn (79 : Nat) []]) fun (z_9 : Bool × List Cap × List Cap) => bif !F.eqcL z_9.fst z_9.snd.fst
  z_9.snd.snd then some (AV.tup [AV.agg [(vI (0 : Int)), (vI (0 : Int))], AV.agg [(vI (0 : Int)), (vI (0 : Int))], (vB false), (vI (0 : Int))], []) else some (AV.tup [AV.agg
  [(vI (List.getD z_4 (0 : Nat) (Cap.mk (0 : Int) (0 : Int) [] (0 : Int) false false)).fr), (vI (List.getD z_5 (0 : Nat) (Cap.mk (0 : Int) (0 : Int) [] (0 : Int) false
  false)).fr)], AV.agg [(vI (List.getD z_2 z (Cap.mk (0 : Int) (0 : Int) [] (0 : Int) false false)).fr), (vI (List.getD z_7 z_6 (Cap.mk (0 : Int) (0 : Int) [] (0 : Int)
  false false)).fr)], (vB true), (vI (0 : Int))], []) else some (AV.tup [AV.agg [(vI (0 : Int)), (vI (0 : Int))], AV.agg [(vI (0 : Int)), (vI (0 : Int))], (vB false), (vI (0
  : Int))], []) else none else none else none else none else none else none else none := (runFR_val).symm.trans (by kernel_rfl)

def encDrf1 (a : List Cap) (b : List Cap) : List AV := [.sl (a.map eCap), .sl (b.map eCap)]

def encDrf (a : (List Cap) × (List Cap)) : List AV := encDrf1 a.1 a.2

theorem encDrf_inj (a a' : (List Cap) × (List Cap)) (h : encDrf a = encDrf a') : a = a' := by
  simp only [encDrf, encDrf1] at h
  try simp [strs_inj, ints_inj, bools_inj, eCaps_inj, eCap_iff, eL_eCaps_inj, eMchs_inj, eMch_iff, eWrds_inj, eWrd_iff, eFnds_inj, eFnd_iff, eRatios_inj, eRatio_iff, eWays_inj, eWay_iff] at h
  grind

theorem unDrf (a : List Cap) (b : List Cap) : unenc encDrf ([AV.sl (List.map eCap a), AV.sl (List.map eCap b)]) = some (a, b) := unenc_of encDrf_inj (a, b) rfl

def resDrf1 (a : List Cap) (b : List Cap) : AV × Heap := (.tup [.agg (eMch (F.drift a b).1), .agg (eMch (F.drift a b).2.1), vB (F.drift a b).2.2.1, vI (F.drift a b).2.2.2], [])

def preDrf1 (a : List Cap) (b : List Cap) : Bool := F.smC a && F.smC b

noncomputable def oDrf : Orc := orc 38 false encDrf (fun a => preDrf1 a.1 a.2) fun a => resDrf1 a.1 a.2

theorem okDrf : OrcOK Tryd.prog noG oDrf := by
  refine mk_ok Tryd.f38 (keep := false) (by kernel_rfl) (by kernel_rfl) enDrf_ok mixed (no_loops (by kernel_rfl)) (by first | exact fun _ _ => ⟨rfl, rfl⟩ | (intro h; cases h)) ?_
  rintro ⟨a, b⟩ hpre hok
  show (runF enDrf false _ (encDrf1 _ _)).val = some (resDrf1 _ _)
  unfold encDrf1 resDrf1
  rw [evDrf]
  simp only [preDrf1, Bool.and_eq_true] at hpre
  obtain ⟨p1, p2⟩ := hpre
  simp only [unChC, preChC1, p1, p2, Option.bind_some, cond_true, fst_two, ff_two, F.drift, preFst1]
  by_cases h0 : F.chkC a = 0
  case neg =>
    rw [bne1 h0]
    simp only [cond_true]
    rw [bne1 h0]
    rfl
  simp only [bne0 h0, cond_false]
  by_cases h1 : F.chkC b = 0
  case neg =>
    rw [bne1 h1]; rfl
  simp only [bne0 h1, cond_false, List.length_map, isE_len]
  cases e1 : a.isEmpty
  case true => rfl
  cases e2 : b.isEmpty
  case true => rfl
  simp only [Bool.or_self, cond_false, unEqFt, Option.bind_some, preEqF1, cond_true]
  cases e3 : F.eqcL true a b
  case false => rfl
  obtain ⟨k1, k2⟩ := F.dr_idx e1
  have hla : a.length ≤ 500 := F.chk_len h0
  have hab : a.length = b.length := by
    unfold F.eqcL at e3
    rw [Bool.and_eq_true] at e3
    exact of_decide_eq_true e3.1
  have hl : 0 < a.length := by omega
  have w1 : IntKind.i64.wrap ((a.length : Int) - 1) = ((a.length - 1 : Nat) : Int) := by rw [wrap_id (by omega) (by omega)]; omega
  simp only [Bool.not_true, cond_false, w1, idx_nat, unCaps, Option.bind_some, decide_eq_true (show a.length - 1 < a.length by omega), decide_eq_true hl, decide_eq_true (show 0 < b.length by omega), cond_true]
  have d1 : (a.getD (a.length - 1) ⟨0, 0, [], 0, false, false⟩).fr = F.drL a := rfl
  simp only [d1, unIxl, preIxl1, Option.bind_some, cond_true, k1, idx_nat, decide_eq_true (show F.drK a < b.length by omega)]
  have u : unenc encSt [.sl (a.map eCap), .agg [vI (a.getD 0 ⟨0, 0, [], 0, false, false⟩).fr, vI (b.getD 0 ⟨0, 0, [], 0, false, false⟩).fr], .agg [vI (F.drL a), vI (b.getD (F.drK a) ⟨0, 0, [], 0, false, false⟩).fr]] = some (a, F.drU a b, F.drV a b) := unenc_of encSt_inj (a, F.drU a b, F.drV a b) rfl
  simp only [u, Option.bind_some, preSt1, p1, cond_true, unEqFf, preEqF1, F.drOut]
  cases (F.stretch a (F.drU a b) (F.drV a b)).2 != 0 <;> cases F.eqcL false (F.stretch a (F.drU a b) (F.drV a b)).1 b <;> rfl

end M
end Go.Proofs.YtniealifncgilaaDoor
