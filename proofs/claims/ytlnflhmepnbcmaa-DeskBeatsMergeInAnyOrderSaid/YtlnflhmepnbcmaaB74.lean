/- What is proved here: what MergeBeats of the reference returns on plain data (no statement of the seat). -/
import Derived.Test.YtlnflhmepnbcmaaB67
import Derived.Test.YtlnflhmepnbcmaaB70
namespace Go.Proofs.Ytlnflhmepnbcmaa
open Go Go.RowKit
set_option linter.unusedVariables false
set_option linter.unusedSimpArgs false
set_option maxHeartbeats 1000000

namespace F

def okN (b : Beat) : Bool := decide (1 ≤ b.no ∧ b.no ≤ 3000)

theorem rborder_lt {a b : Beat} (ha : okN a = true) (hb : okN b = true) : decide (rborder a b < 0) = ltB a b := by
  have h1 : 1 ≤ a.no ∧ a.no ≤ 3000 := of_decide_eq_true ha
  have h2 : 1 ≤ b.no ∧ b.no ≤ 3000 := of_decide_eq_true hb
  unfold ltB rborder border
  cases F.cmp a.session b.session != 0
  · simp only [cond_false]
    rw [M.wrap_id (by omega) (by omega)]
    by_cases h3 : a.no < b.no
    · simp only [h3, decide_true, cond_true]; simp; omega
    · by_cases h4 : b.no < a.no
      · simp only [h3, h4, decide_true, decide_false, cond_true, cond_false]; simp; omega
      · simp only [h3, h4, decide_false, cond_false]; simp; omega
  · rfl

theorem chk_okN : ∀ {l : List Beat} {p : Option Beat}, chkB p l = 0 → l.all okN = true
  | [], _, _ => rfl
  | b :: l, p, h => by
    unfold chkB at h
    by_cases h1 : beatF1 b = 0
    · rw [M.bne0 h1, cond_false] at h
      have h2 : okN b = true := decide_eq_true (beatF1_ok h1).2.1
      have h3 : chkB (some b) l = 0 := by
        cases p with
        | none => exact h
        | some o =>
          simp only at h
          by_cases h4 : beatF2 o b = 0
          · rw [M.bne0 h4, cond_false] at h; exact h
          · rw [M.bne1 h4, cond_true] at h; exact absurd h h4
      rw [List.all_cons, h2, chk_okN h3]; rfl
    · rw [M.bne1 h1, cond_true] at h; exact absurd h h1

theorem check_okN {l : List Beat} (h : checkB l = 0) : l.all okN = true := by
  unfold checkB at h
  by_cases h2 : 3000 < l.length
  · rw [decide_eq_true h2, cond_true] at h; cases h
  · rw [decide_eq_false h2, cond_false] at h; exact chk_okN h

theorem check_len {l : List Beat} (h : checkB l = 0) : l.length ≤ 3000 := by
  unfold checkB at h
  by_cases h2 : 3000 < l.length
  · rw [decide_eq_true h2, cond_true] at h; cases h
  · omega

theorem insAt_all {p : Beat → Bool} {i : Nat} {c : Beat} {xs : List Beat} (h : xs.all p = true) (hc : p c = true) : (F.insAt i c xs).all p = true := by
  rw [List.all_eq_true] at h ⊢
  intro x hx
  unfold F.insAt at hx
  rcases List.mem_append.1 hx with hx | hx
  · exact h x (List.mem_of_mem_take hx)
  · rcases List.mem_cons.1 hx with rfl | hx
    · exact hc
    · exact h x (List.mem_of_mem_drop hx)

/-- The first place whose element is not before c. -/
def fstI (c : Beat) : List Beat → Nat → Nat
  | [], i => i
  | y :: r, i => bif ltB y c then fstI c r (i + 1) else i

/-- The beats of a list put into another one; whether none clashes. -/
def mg : List Beat → List Beat → List Beat × Bool
  | out, [] => (out, true)
  | out, c :: r => bif (out.length == fstI c out 0) || ltB c (out.getD (fstI c out 0) default) then mg (F.insAt (fstI c out 0) c out) r
    else bif !M.eqBeat (out.getD (fstI c out 0) default) c then ([], false) else mg out r

theorem fstI_le (c : Beat) : ∀ (l : List Beat) (i : Nat), i ≤ fstI c l i ∧ fstI c l i ≤ i + l.length
  | [], i => ⟨Nat.le_refl _, Nat.le_refl _⟩
  | y :: r, i => by
    have := fstI_le c r (i + 1)
    unfold fstI
    cases ltB y c <;> simp only [cond_true, cond_false, List.length_cons] <;> omega

def mergeR (a b : List Beat) : List Beat × Int :=
  bif checkB a != 0 then ([], checkB a) else bif checkB b != 0 then ([], checkB b) else
  bif (mg a b).2 then (bif checkB (mg a b).1 != 0 then ([], checkB (mg a b).1) else ((mg a b).1, 0)) else ([], 12)

end F

namespace M

theorem beqN {a b : Nat} : ((a : Int) == (b : Int)) = (a == b) := by
  by_cases h : a = b
  · subst h; simp
  · rw [beq_eq_false_iff_ne.2 h, beq_eq_false_iff_ne]; omega

noncomputable def rawF (E : Env) (fn : Func) (args : List AV) : T AV :=
  match fn.body with
  | none => .fail
  | some c => match dstsOK fn.ntmps c with
    | true => (exec E c ⟨numbered 0 (args.map noGd) [], []⟩).bind fun p => match p.1 with
      | .ret => (ress E p.2 fn.results.toList).bind fun us => .ret (resAV us)
      | _ => .fail
    | false => .fail

theorem rawF_e0 {P : Program} {E : Env} (ok : EnvOK P E) (hm : P.follows .mixedOrders = true) {f : FuncId} {fn : Func} (hf : P.funcs[f]? = some fn) (hlp : ∀ x ∈ Func.loops fn, ∀ s e s', (E.lp (lid x) s).val = some (e, s') → LoopOK E x s e s')
    {args : List AV} {ty n : Nat} (hr : (rawF E fn args).val = some .e0) : SpecP P E.glob f args (.own 0) [(0, ⟨false, ty, n, []⟩)] := by
  intro w S cargs hlt hglob hargs
  unfold rawF at hr
  split at hr
  · rw [T.fail_some] at hr; exact hr.elim
  · rename_i c hc
    split at hr
    · rename_i hd
      rw [T.bind_some] at hr
      obtain ⟨⟨e, s2⟩, h1, h2⟩ := hr
      simp only [] at h2
      cases e with
      | normal => rw [T.fail_some] at h2; exact h2.elim
      | exit i => rw [T.fail_some] at h2; exact h2.elim
      | ret =>
        rw [T.bind_some] at h2
        obtain ⟨xs, h3, h4⟩ := h2
        have inv0 : Inv E (fun b => b < w.heap.size) w S noKeys [] := ⟨fun _ h => h, hlt, (fun _ _ _ _ h => by cases h), (fun _ _ h => by cases h), (fun _ _ h => by cases h), (fun k bl hk => by simp [mget] at hk), hglob⟩
        refine run_start ok hm hf hlp hc hd inv0 hargs h1 h3 fun w' S2 β2 a' u rel hu2 => ?_
        have inv := rel.inv
        refine ⟨u, ?_⟩
        rw [T.ret_some] at h4
        rw [h4] at hu2
        obtain ⟨A, rfl⟩ : ∃ A, u = .slice A 0 0 := hu2
        refine ⟨S2, fun k => if k = 0 then some ⟨false, 0, 0, 0, 0⟩ else none, rfl, rel.below.below, rel.sub, fun b hb => (rel.news b hb).imp id (fun h => by omega), inv.lt, ?_, ?_, ?_, ?_, ?_⟩
        · intro k k' x x' hx hx' hr
          by_cases hk : k = 0
          · simp only [hk, if_true, Option.some.injEq] at hx
            subst hx; cases hr
          · simp [hk] at hx
        · intro k x hx hr
          by_cases hk : k = 0
          · simp only [hk, if_true, Option.some.injEq] at hx
            subst hx; cases hr
          · simp [hk] at hx
        · intro k x hx
          by_cases hk : k = 0
          · simp only [hk, if_true, Option.some.injEq] at hx
            subst hx
            exact ⟨⟨false, ty, n, []⟩, by subst hk; rfl, rfl, (fun hr => by cases hr), fun _ => rfl⟩
          · simp [hk] at hx
        · intro k bl hk
          by_cases hk0 : k = 0
          · exact ⟨⟨false, 0, 0, 0, 0⟩, by simp [hk0]⟩
          · exfalso
            revert hk
            cases k with
            | zero => exact absurd rfl hk0
            | succ k => intro hk; cases hk
        · exact ⟨⟨false, 0, 0, 0, 0⟩, rfl, (fun hr => by cases hr), fun _ => ⟨A, rfl⟩⟩
    · rw [T.fail_some] at hr; exact hr.elim

theorem evClB1 (xs : List Beat) : (runF enBor true Try.f20 [.nz false (xs.map eBeat)]).val =
  bif Nat.ble (((0 : Nat) + List.length (List.map eBeat xs)) * (48 : Nat)) (140737488355328 : Nat) && List.all (List.map eBeat xs) fun (r : Row) => Nat.beq (List.length r)
  (TI.mk false (1 : Nat) [] [AV.e0] (29 : Nat) (5 : Nat) (48 : Nat) [(vS (ByteArray.mk (Array.mk []))), (vI (0 : Int)), (vI (0 : Int)), (vI (0 : Int)), (vI (0 : Int))] none
  (4 : Nat) []).esize then some (.own 0, [(0, Blk.mk false 29 5 (List.map eBeat xs))]) else none := (runFR_val).symm.trans (by kernel_rfl)

theorem evClB0 : (rawF enBor Try.f20 [.nz true []]).val = some .e0 := by kernel_rfl

def encClB1 (xs : List Beat) : List AV := [.sl (xs.map eBeat)]

def encClB (a : (List Beat)) : List AV := encClB1 a

theorem encClB_inj (a a' : (List Beat)) (h : encClB a = encClB a') : a = a' := by
  simp only [encClB, encClB1] at h
  try simp [strs_inj, ints_inj, bools_inj, eBeats_inj, eBeat_iff, eL_eBeats_inj, eSpans_inj, eSpan_iff, eHoles_inj, eHole_iff, eLevels_inj, eLevel_iff, eFigss_inj, eFigs_iff, eRatios_inj, eRatio_iff, eReps_inj, eRep_iff, eStays_inj, eStay_iff] at h
  grind

theorem unClB (xs : List Beat) : unenc encClB ([AV.sl (List.map eBeat xs)]) = some (xs) := unenc_of encClB_inj (xs) rfl

def resClB1 (xs : List Beat) : AV × Heap := (.own 0, [(0, ⟨false, 29, 5, xs.map eBeat⟩)])

def preClB1 (xs : List Beat) : Bool := decide (xs.length ≤ 100000)

noncomputable def oClB : Orc := orc 20 true encClB (fun a => preClB1 a) fun a => resClB1 a

theorem okClB : OrcOK Try.prog noG oClB := by
  refine orc_ok ⟨Try.f20, by kernel_rfl, by kernel_rfl, by kernel_rfl⟩ (fun xs hp _ => ?_) (fun _ xs => ⟨?_, rfl⟩)
  · simp only [preClB1, decide_eq_true_eq] at hp
    have hb : Nat.ble (xs.length * 48) 140737488355328 = true := ble_t (by omega)
    show SpecP _ _ _ [.sl (xs.map eBeat)] (.own 0) [(0, ⟨false, 29, 5, xs.map eBeat⟩)]
    refine SpecP.nil (fun e => ?_) ?_
    · have : xs = [] := by simpa using e
      subst this
      exact rawF_e0 (E := enBor) enBor_ok mixed (fn := Try.f20) (by kernel_rfl) (no_loops (by kernel_rfl)) evClB0
    · refine runF_sound (E := enBor) enBor_ok mixed (fn := Try.f20) (by kernel_rfl) (no_loops (by kernel_rfl)) (keep := true) ?_
      rw [evClB1]
      simp only [List.length_map, Nat.zero_add, hb, all_Beats, Bool.and_true, cond_true, List.nil_append]
  · show frsH [(0, ⟨false, 29, 5, xs.map eBeat⟩)] = true
    simp [frsH, eBeat, flat0]

def stRm1 (b : List Beat) (k : Nat) (out : List Beat) : St := ⟨[(27, vI k), (26, vI b.length), (25, .sl (b.map eBeat)), (8, .own 25000)], [(25000, ⟨false, 29, 5, out.map eBeat⟩)]⟩

def stRm11 (a : (List Beat) × Nat × (List Beat)) : St := stRm1 a.1 a.2.1 a.2.2

theorem stRm1_inj (a a' : (List Beat) × Nat × (List Beat)) (h : stRm11 a = stRm11 a') : a = a' := by
  simp only [stRm11, stRm1] at h
  try simp [strs_inj, ints_inj, bools_inj, eBeats_inj, eBeat_iff, eL_eBeats_inj, eSpans_inj, eSpan_iff, eHoles_inj, eHole_iff, eLevels_inj, eLevel_iff, eFigss_inj, eFigs_iff, eRatios_inj, eRatio_iff, eReps_inj, eRep_iff, eStays_inj, eStay_iff] at h
  grind

theorem unstRm1 (b : List Beat) (k : Nat) (out : List Beat) : unenc stRm11 (St.mk [(27, (vI (↑k : Int))), (26, (vI (↑(List.length b) : Int))), (25, AV.sl (List.map eBeat b)), (8, .own 25000)] [(25000, Blk.mk false 29 5 (List.map eBeat out))]) = some (b, k, out) := unenc_of stRm1_inj (b, k, out) rfl

theorem unstRm10 (b : List Beat) (out : List Beat)  : unenc stRm11 (St.mk [(27, (vI (0 : Int))), (26, (vI (↑(List.length b) : Int))), (25, AV.sl (List.map eBeat b)), (8, .own 25000)] [(25000, Blk.mk false 29 5 (List.map eBeat out))]) = some (b, 0, out) := unenc_of stRm1_inj (b, 0, out) rfl

def outRm1 (b : List Beat) (k : Nat) (out : List Beat) : T (Ex × St) := .ifB (F.mg out (b.drop k)).2 (.ret (.exit 0, ⟨[(8, .own 25000)], [(25000, ⟨false, 29, 5, (F.mg out (b.drop k)).1.map eBeat⟩)]⟩)) (.ret (.ret, ⟨[(5, vI 12), (4, .own 4)], [(4, ⟨false, 29, 5, []⟩)]⟩))

noncomputable def prlRm1 (b : List Beat) (k : Nat) (out : List Beat) : Bool := decide (b.length ≤ 3000 ∧ k ≤ b.length ∧ out.length ≤ 3000 + k) && out.all F.okN && b.all F.okN

noncomputable def lpRm1 : Nat × (St → T (Ex × St)) := (9, lpo [27, 26, 25, 8] [25000] stRm11 (fun a => prlRm1 a.1 a.2.1 a.2.2) fun a => outRm1 a.1 a.2.1 a.2.2)

def stRm2 (b : List Beat) (k : Nat) (out : List Beat) (c : Beat) (i : Nat) : St := ⟨[(27, vI k), (26, vI b.length), (25, .sl (b.map eBeat)), (11, vI i), (10, .ptr 10 0 0), (8, .own 25000)], [(25000, ⟨false, 29, 5, out.map eBeat⟩), (10, ⟨true, 0, 0, [eBeat c]⟩)]⟩

def stRm21 (a : (List Beat) × Nat × (List Beat) × Beat × Nat) : St := stRm2 a.1 a.2.1 a.2.2.1 a.2.2.2.1 a.2.2.2.2

theorem stRm2_inj (a a' : (List Beat) × Nat × (List Beat) × Beat × Nat) (h : stRm21 a = stRm21 a') : a = a' := by
  simp only [stRm21, stRm2] at h
  try simp [strs_inj, ints_inj, bools_inj, eBeats_inj, eBeat_iff, eL_eBeats_inj, eSpans_inj, eSpan_iff, eHoles_inj, eHole_iff, eLevels_inj, eLevel_iff, eFigss_inj, eFigs_iff, eRatios_inj, eRatio_iff, eReps_inj, eRep_iff, eStays_inj, eStay_iff] at h
  grind

theorem unstRm2 (b : List Beat) (k : Nat) (out : List Beat) (c : Beat) (i : Nat) : unenc stRm21 (St.mk [(27, (vI (↑k : Int))), (26, (vI (↑(List.length b) : Int))), (25, AV.sl (List.map eBeat b)), (11, (vI (↑i : Int))), (10, .ptr 10 0 0), (8, .own 25000)] [(25000,
  Blk.mk false 29 5 (List.map eBeat out)), (10, Blk.mk true 0 0 [[(vS c.session), (vI c.no), (vI c.time), (vI c.state), (vI c.rate)]])]) = some (b, k, out, c, i) := unenc_of stRm2_inj (b, k, out, c, i) rfl

theorem unstRm20 (b : List Beat) (k : Nat) (out : List Beat) (c : Beat)  : unenc stRm21 (St.mk [(27, (vI (↑k : Int))), (26, (vI (↑(List.length b) : Int))), (25, AV.sl (List.map eBeat b)), (11, (vI (0 : Int))), (10, .ptr 10 0 0), (8, .own 25000)] [(25000,
  Blk.mk false 29 5 (List.map eBeat out)), (10, Blk.mk true 0 0 [[(vS c.session), (vI c.no), (vI c.time), (vI c.state), (vI c.rate)]])]) = some (b, k, out, c, 0) := unenc_of stRm2_inj (b, k, out, c, 0) rfl

def outRm2 (b : List Beat) (k : Nat) (out : List Beat) (c : Beat) (i : Nat) : T (Ex × St) := .ret (.exit 2, ⟨[(27, vI k), (26, vI b.length), (25, .sl (b.map eBeat)), (11, vI (F.fstI c (out.drop i) i)), (10, .ptr 10 0 0), (8, .own 25000)], [(25000, ⟨false, 29, 5, out.map eBeat⟩), (10, ⟨true, 0, 0, [eBeat c]⟩)]⟩)

noncomputable def prlRm2 (b : List Beat) (k : Nat) (out : List Beat) (c : Beat) (i : Nat) : Bool := decide (out.length ≤ 100000 ∧ i ≤ out.length) && out.all F.okN && F.okN c

noncomputable def lpRm2 : Nat × (St → T (Ex × St)) := (12, lpo [27, 26, 25, 11, 10, 8] [25000, 10] stRm21 (fun a => prlRm2 a.1 a.2.1 a.2.2.1 a.2.2.2.1 a.2.2.2.2) fun a => outRm2 a.1 a.2.1 a.2.2.1 a.2.2.2.1 a.2.2.2.2)

noncomputable def enRm : Env := envH ty noG lks [oRhb, oRBor, oClB] [oInsO] [25000] [lpRm1, lpRm2]

theorem enRm_ok : EnvOK Try.prog enRm := by
  refine envH_ok lks_ok ty_ok ?_ ?_
  · simp only [List.forall_mem_cons]
    exact ⟨okRhb, okRBor, okClB, by simp⟩
  · simp only [List.forall_mem_cons]
    exact ⟨okInsO, by simp⟩

theorem evRm2L (b : List Beat) (k : Nat) (out : List Beat) (c : Beat) (i : Nat) : ((exec enRm (loopN Try.f6 1) (stRm2 b k out c i)).bind (lessX ([27, 26, 25, 11, 10, 8], [25000, 10]) ([27, 26, 25, 11, 10, 8], [25000, 10]) ([], []))).val =
  bif decide ((↑i : Int) < (↑(List.length (List.map eBeat out)) : Int)) then bif decide (i < List.length (Blk.mk false 29 5 (List.map eBeat out)).rows) then Option.bind
  (unenc (List.map eBeat) (List.map eBeat out)) fun (z : List Beat) => bif decide (i < List.length z) then Option.bind (unenc encRBor [AV.agg [(vS (List.getD z i (Beat.mk
  (ByteArray.mk (Array.mk [])) (0 : Int) (0 : Int) (0 : Int) (0 : Int))).session), (vI (List.getD z i (Beat.mk (ByteArray.mk (Array.mk [])) (0 : Int) (0 : Int) (0 : Int) (0
  : Int))).no), (vI (List.getD z i (Beat.mk (ByteArray.mk (Array.mk [])) (0 : Int) (0 : Int) (0 : Int) (0 : Int))).time), (vI (List.getD z i (Beat.mk (ByteArray.mk (Array.mk
  [])) (0 : Int) (0 : Int) (0 : Int) (0 : Int))).state), (vI (List.getD z i (Beat.mk (ByteArray.mk (Array.mk [])) (0 : Int) (0 : Int) (0 : Int) (0 : Int))).rate)], AV.agg
  [(vS c.session), (vI c.no), (vI c.time), (vI c.state), (vI c.rate)]]) fun (z : Beat × Beat) => bif decide (F.rborder z.fst z.snd < (0 : Int)) then some (Ex.normal, St.mk
  [(27, (vI (↑k : Int))), (26, (vI (↑(List.length b) : Int))), (25, AV.sl (List.map eBeat b)), (11, (vI (IntKind.wrap IntKind.i64 ((↑i : Int) + (1 : Int))))), (10, .ptr 10 0
  0), (8, .own 25000)] [(25000, Blk.mk false 29 5 (List.map eBeat out)), (10, Blk.mk true 0 0 [[(vS c.session), (vI c.no), (vI c.time), (vI c.state), (vI c.rate)]])]) else
  some (Ex.exit (2 : Nat), St.mk [(27, (vI (↑k : Int))), (26, (vI (↑(List.length b) : Int))), (25, AV.sl (List.map eBeat b)), (11, (vI (↑i : Int))), (10, .ptr 10 0 0), (8,
  .own 25000)] [(25000, Blk.mk false 29 5 (List.map eBeat out)), (10, Blk.mk true 0 0 [[(vS c.session), (vI c.no), (vI c.time), (vI c.state), (vI c.rate)]])]) else none else
  none else some (Ex.exit (2 : Nat), St.mk [(27, (vI (↑k : Int))), (26, (vI (↑(List.length b) : Int))), (25, AV.sl (List.map eBeat b)), (11, (vI (↑i : Int))), (10, .ptr 10 0
  0), (8, .own 25000)] [(25000, Blk.mk false 29 5 (List.map eBeat out)), (10, Blk.mk true 0 0 [[(vS c.session), (vI c.no), (vI c.time), (vI c.state), (vI c.rate)]])]) := (execR_bind _ _ _).symm.trans (by kernel_rfl)

theorem lpRm2_ok (b : List Beat) (k : Nat) (out : List Beat) (c : Beat) (i : Nat) (hp : prlRm2 b k out c i = true) : ∀ ex s', (outRm2 b k out c i).val = some (ex, s') → LoopOK enRm (loopN Try.f6 1) (stRm2 b k out c i) ex s' := by
  simp only [prlRm2, Bool.and_eq_true, decide_eq_true_eq] at hp
  obtain ⟨⟨⟨h1, h2⟩, h3⟩, h4⟩ := hp
  refine loop_gen (st := stRm2 b k out c) (out := outRm2 b k out c) (I := fun i => i ≤ out.length) (n := ([27, 26, 25, 11, 10, 8], [25000, 10])) (e := ([27, 26, 25, 11, 10, 8], [25000, 10])) (r := ([], [])) (fun i => out.length - i) ?_ i h2
  intro i hi
  by_cases hlt : i < out.length
  · obtain ⟨y, hy⟩ := at_lt hlt
    have hn : F.okN y = true := List.all_eq_true.1 h3 y (List.mem_of_getElem? hy)
    cases hq : F.ltB y c
    · left
      refine ⟨_, ?_, rfl, by simp, rfl⟩
      rw [evRm2L]
      simp only [unRhb, unRBor, unClB, unInsO, unRBorw, unInsOw, preRhb1, preRBor1, preClB1, preInsO1, unstRm1, unstRm2, unstRm10, unstRm20, prlRm1, prlRm2, outRm1, outRm2, etaBeat, etaSpan, etaHole, etaLevel, etaFigs, etaRatio, etaRep, etaStay, Option.bind_some, List.length_map, unStrs, unInts, unBools, unBeats, uneL_eBeats, unSpans, unHoles, unLevels, unFigss, unRatios, unReps, unStays, F.lt, F.le, cond_true, cond_false, Bool.and_true, Bool.true_and, cast_lt hlt, decide_eq_true hlt, getD_at hy, F.rborder_lt hn h4, hq, dropAt hy, F.fstI]
      rfl
    · right
      refine ⟨i + 1, ?_, rfl, hlt, by omega, ?_⟩
      · rw [evRm2L]
        simp only [unRhb, unRBor, unClB, unInsO, unRBorw, unInsOw, preRhb1, preRBor1, preClB1, preInsO1, unstRm1, unstRm2, unstRm10, unstRm20, prlRm1, prlRm2, outRm1, outRm2, etaBeat, etaSpan, etaHole, etaLevel, etaFigs, etaRatio, etaRep, etaStay, Option.bind_some, List.length_map, unStrs, unInts, unBools, unBeats, uneL_eBeats, unSpans, unHoles, unLevels, unFigss, unRatios, unReps, unStays, F.lt, F.le, cond_true, cond_false, Bool.and_true, Bool.true_and, cast_lt hlt, decide_eq_true hlt, getD_at hy, F.rborder_lt hn h4, hq, w_add1 (show i < 9223372036854775807 by omega), stRm2]
        try rfl
      · simp only [outRm2, dropAt hy, F.fstI, hq, cond_true]
  · have : i = out.length := by omega
    subst this
    left
    refine ⟨_, ?_, rfl, by simp, rfl⟩
    rw [evRm2L]
    simp only [List.length_map, cast_ge, cond_false, List.drop_length, F.fstI]
    rfl

theorem evRm1L (b : List Beat) (k : Nat) (out : List Beat) : ((exec enRm (loopN Try.f6 0) (stRm1 b k out)).bind (lessX ([27, 26, 25, 8], [25000]) ([8], [25000]) ([5, 4], [4]))).val =
  bif decide ((↑k : Int) < (↑(List.length b) : Int)) then Option.bind (unenc (List.map eBeat) (List.map eBeat b)) fun (z : List Beat) => bif decide (k < List.length z) then
  Option.bind (unenc stRm21 (St.mk [(27, (vI (↑k : Int))), (26, (vI (↑(List.length b) : Int))), (25, AV.sl (List.map eBeat b)), (11, (vI (0 : Int))), (10, .ptr 10 0 0), (8,
  .own 25000)] [(25000, Blk.mk false 29 5 (List.map eBeat out)), (10, Blk.mk true 0 0 [[(vS (List.getD z k (Beat.mk (ByteArray.mk (Array.mk [])) (0 : Int) (0 : Int) (0 :
  Int) (0 : Int))).session), (vI (List.getD z k (Beat.mk (ByteArray.mk (Array.mk [])) (0 : Int) (0 : Int) (0 : Int) (0 : Int))).no), (vI (List.getD z k (Beat.mk
  (ByteArray.mk (Array.mk [])) (0 : Int) (0 : Int) (0 : Int) (0 : Int))).time), (vI (List.getD z k (Beat.mk (ByteArray.mk (Array.mk [])) (0 : Int) (0 : Int) (0 : Int) (0 :
  Int))).state), (vI (List.getD z k (Beat.mk (ByteArray.mk (Array.mk [])) (0 : Int) (0 : Int) (0 : Int) (0 : Int))).rate)]])])) fun (z : List Beat × Nat × List Beat × Beat ×
  Nat) => bif decide (List.length z.snd.snd.fst ≤ (100000 : Nat) ∧ z.snd.snd.snd.snd ≤ List.length z.snd.snd.fst) && List.all z.snd.snd.fst F.okN && F.okN z.snd.snd.snd.fst
  && true then bif !(↑(F.fstI z.snd.snd.snd.fst (List.drop z.snd.snd.snd.snd z.snd.snd.fst) z.snd.snd.snd.snd) : Int) == (↑(List.length (List.map eBeat z.snd.snd.fst)) :
  Int) then bif decide (F.fstI z.snd.snd.snd.fst (List.drop z.snd.snd.snd.snd z.snd.snd.fst) z.snd.snd.snd.snd < List.length (Blk.mk false 29 5 (List.map eBeat
  z.snd.snd.fst)).rows) then Option.bind (unenc (List.map eBeat) (List.map eBeat z.snd.snd.fst)) fun (z_1 : List Beat) => bif decide (F.fstI z.snd.snd.snd.fst (List.drop
  z.snd.snd.snd.snd z.snd.snd.fst) z.snd.snd.snd.snd < List.length z_1) then Option.bind (unenc encRBor [AV.agg [(vS z.snd.snd.snd.fst.session), (vI z.snd.snd.snd.fst.no),
  (vI z.snd.snd.snd.fst.time), (vI z.snd.snd.snd.fst.state), (vI z.snd.snd.snd.fst.rate)], AV.agg [(vS (List.getD z_1 (F.fstI z.snd.snd.snd.fst (List.drop z.snd.snd.snd.snd
  z.snd.snd.fst) z.snd.snd.snd.snd) (Beat.mk (ByteArray.mk (Array.mk [])) (0 : Int) (0 : Int) (0 : Int) (0 : Int))).session), (vI (List.getD z_1 (F.fstI z.snd.snd.snd.fst
  (List.drop z.snd.snd.snd.snd z.snd.snd.fst) z.snd.snd.snd.snd) (Beat.mk (ByteArray.mk (Array.mk [])) (0 : Int) (0 : Int) (0 : Int) (0 : Int))).no), (vI (List.getD z_1
  (F.fstI z.snd.snd.snd.fst (List.drop z.snd.snd.snd.snd z.snd.snd.fst) z.snd.snd.snd.snd) (Beat.mk (ByteArray.mk (Array.mk [])) (0 : Int) (0 : Int) (0 : Int) (0 :
  Int))).time), (vI (List.getD z_1 (F.fstI z.snd.snd.snd.fst (List.drop z.snd.snd.snd.snd z.snd.snd.fst) z.snd.snd.snd.snd) (Beat.mk (ByteArray.mk (Array.mk [])) (0 : Int)
  (0 : Int) (0 : Int) (0 : Int))).state), (vI (List.getD z_1 (F.fstI z.snd.snd.snd.fst (List.drop z.snd.snd.snd.snd z.snd.snd.fst) z.snd.snd.snd.snd) (Beat.mk (ByteArray.mk
  (Array.mk [])) (0 : Int) (0 : Int) (0 : Int) (0 : Int))).rate)]]) fun (z_2 : Beat × Beat) => bif decide (F.rborder z_2.fst z_2.snd < (0 : Int)) then Option.bind (unenc
  encInsO ([.own 900, (vI (↑(F.fstI z.snd.snd.snd.fst (List.drop z.snd.snd.snd.snd z.snd.snd.fst) z.snd.snd.snd.snd) : Int)), .own 901], [(901, Blk.mk false 29 5 [[(vS
  z.snd.snd.snd.fst.session), (vI z.snd.snd.snd.fst.no), (vI z.snd.snd.snd.fst.time), (vI z.snd.snd.snd.fst.state), (vI z.snd.snd.snd.fst.rate)]]), (900, Blk.mk false 29 5
  (List.map eBeat z.snd.snd.fst))])) fun (z_3 : List Beat × Nat × Beat) => bif decide (z_3.snd.fst ≤ List.length z_3.fst ∧ List.length z_3.fst ≤ (100000 : Nat)) then some
  (Ex.normal, St.mk [(27, (vI (IntKind.wrap IntKind.i64 ((↑z.snd.fst : Int) + (1 : Int))))), (26, (vI (↑(List.length z.fst) : Int))), (25, AV.sl (List.map eBeat z.fst)), (8,
  AV.own (List.getD [(25000 : Nat), (63 : Nat)] (0 : Nat) (0 : Nat)))] [(List.getD [(25000 : Nat), (63 : Nat)] (0 : Nat) (0 : Nat), Blk.mk false 29 5 (List.map eBeat
  (F.insAt z_3.snd.fst z_3.snd.snd z_3.fst)))]) else none else bif decide (F.fstI z.snd.snd.snd.fst (List.drop z.snd.snd.snd.snd z.snd.snd.fst) z.snd.snd.snd.snd <
  List.length (Blk.mk false 29 5 (List.map eBeat z.snd.snd.fst)).rows) then Option.bind (unenc (List.map eBeat) (List.map eBeat z.snd.snd.fst)) fun (z_3 : List Beat) => bif
  decide (F.fstI z.snd.snd.snd.fst (List.drop z.snd.snd.snd.snd z.snd.snd.fst) z.snd.snd.snd.snd < List.length z_3) then bif !(ByteArray.toList (List.getD z_3 (F.fstI
  z.snd.snd.snd.fst (List.drop z.snd.snd.snd.snd z.snd.snd.fst) z.snd.snd.snd.snd) (Beat.mk (ByteArray.mk (Array.mk [])) (0 : Int) (0 : Int) (0 : Int) (0 : Int))).session ==
  ByteArray.toList z.snd.snd.snd.fst.session && ((List.getD z_3 (F.fstI z.snd.snd.snd.fst (List.drop z.snd.snd.snd.snd z.snd.snd.fst) z.snd.snd.snd.snd) (Beat.mk
  (ByteArray.mk (Array.mk [])) (0 : Int) (0 : Int) (0 : Int) (0 : Int))).no == z.snd.snd.snd.fst.no && ((List.getD z_3 (F.fstI z.snd.snd.snd.fst (List.drop z.snd.snd.snd.snd
  z.snd.snd.fst) z.snd.snd.snd.snd) (Beat.mk (ByteArray.mk (Array.mk [])) (0 : Int) (0 : Int) (0 : Int) (0 : Int))).time == z.snd.snd.snd.fst.time && ((List.getD z_3 (F.fstI
  z.snd.snd.snd.fst (List.drop z.snd.snd.snd.snd z.snd.snd.fst) z.snd.snd.snd.snd) (Beat.mk (ByteArray.mk (Array.mk [])) (0 : Int) (0 : Int) (0 : Int) (0 : Int))).state ==
  z.snd.snd.snd.fst.state && ((List.getD z_3 (F.fstI z.snd.snd.snd.fst (List.drop z.snd.snd.snd.snd z.snd.snd.fst) z.snd.snd.snd.snd) (Beat.mk (ByteArray.mk (Array.mk []))
  (0 : Int) (0 : Int) (0 : Int) (0 : Int))).rate == z.snd.snd.snd.fst.rate && true))))) then some (Ex.ret, St.mk [(5, (vI (12 : Int))), (4, .own 4)] [(4, Blk.mk false 29 5
  [])]) else some (Ex.normal, St.mk [(27, (vI (IntKind.wrap IntKind.i64 ((↑z.snd.fst : Int) + (1 : Int))))), (26, (vI (↑(List.length z.fst) : Int))), (25, AV.sl (List.map
  eBeat z.fst)), (8, .own 25000)] [(25000, Blk.mk false 29 5 (List.map eBeat z.snd.snd.fst))]) else none else none else none else none else Option.bind (unenc encInsO ([.own
  900, (vI (↑(F.fstI z.snd.snd.snd.fst (List.drop z.snd.snd.snd.snd z.snd.snd.fst) z.snd.snd.snd.snd) : Int)), .own 901], [(901, Blk.mk false 29 5 [[(vS
  z.snd.snd.snd.fst.session), (vI z.snd.snd.snd.fst.no), (vI z.snd.snd.snd.fst.time), (vI z.snd.snd.snd.fst.state), (vI z.snd.snd.snd.fst.rate)]]), (900, Blk.mk false 29 5
  (List.map eBeat z.snd.snd.fst))])) fun (z_1 : List Beat × Nat × Beat) => bif decide (z_1.snd.fst ≤ List.length z_1.fst ∧ List.length z_1.fst ≤ (100000 : Nat)) then some
  (Ex.normal, St.mk [(27, (vI (IntKind.wrap IntKind.i64 ((↑z.snd.fst : Int) + (1 : Int))))), (26, (vI (↑(List.length z.fst) : Int))), (25, AV.sl (List.map eBeat z.fst)), (8,
  AV.own (List.getD [(25000 : Nat), (63 : Nat)] (0 : Nat) (0 : Nat)))] [(List.getD [(25000 : Nat), (63 : Nat)] (0 : Nat) (0 : Nat), Blk.mk false 29 5 (List.map eBeat
  (F.insAt z_1.snd.fst z_1.snd.snd z_1.fst)))]) else none else none else none else some (Ex.exit (0 : Nat), St.mk [(8, .own 25000)] [(25000, Blk.mk false 29 5 (List.map
  eBeat out))]) := (execR_bind _ _ _).symm.trans (by kernel_rfl)

theorem lpRm1_ok (b : List Beat) (k : Nat) (out : List Beat) (hp : prlRm1 b k out = true) : ∀ ex s', (outRm1 b k out).val = some (ex, s') → LoopOK enRm (loopN Try.f6 0) (stRm1 b k out) ex s' := by
  simp only [prlRm1, Bool.and_eq_true, decide_eq_true_eq] at hp
  obtain ⟨⟨⟨h1, h2, h3⟩, h4⟩, h5⟩ := hp
  refine loop_gen (st := fun s : Nat × List Beat => stRm1 b s.1 s.2) (out := fun s => outRm1 b s.1 s.2) (I := fun s => s.1 ≤ b.length ∧ s.2.length ≤ 3000 + s.1 ∧ s.2.all F.okN = true) (n := ([27, 26, 25, 8], [25000])) (e := ([8], [25000])) (r := ([5, 4], [4])) (fun s => b.length - s.1) ?_ (k, out) ⟨h2, h3, h4⟩
  rintro ⟨k, out⟩ ⟨h2, h3, h4⟩
  simp only at h2 h3 h4
  by_cases hlt : k < b.length
  · obtain ⟨c, hc⟩ := at_lt hlt
    have hn : F.okN c = true := List.all_eq_true.1 h5 c (List.mem_of_getElem? hc)
    have hd := dropAt hc
    have hw := w_add1 (show k < 9223372036854775807 by omega)
    have q1 : out.length ≤ 100000 ∧ 0 ≤ out.length := ⟨by omega, Nat.zero_le _⟩
    have hil := (F.fstI_le c out 0).2
    have eg : ([25000, 63] : List Nat).getD 0 0 = 25000 := rfl
    have hins : (F.insAt (F.fstI c out 0) c out).length ≤ 3000 + (k + 1) := by
      unfold F.insAt; rw [List.length_append, List.length_cons, List.length_take, List.length_drop]; omega
    by_cases hi : F.fstI c out 0 = out.length
    · right
      refine ⟨(k + 1, F.insAt (F.fstI c out 0) c out), ?_, rfl, ⟨hlt, hins, F.insAt_all h4 hn⟩, by simp only; omega, ?_⟩
      · rw [evRm1L]
        have q2 : F.fstI c out 0 ≤ out.length ∧ out.length ≤ 100000 := ⟨by omega, by omega⟩
        simp only [unRhb, unRBor, unClB, unInsO, unRBorw, unInsOw, preRhb1, preRBor1, preClB1, preInsO1, unstRm1, unstRm2, unstRm10, unstRm20, prlRm1, prlRm2, outRm1, outRm2, etaBeat, etaSpan, etaHole, etaLevel, etaFigs, etaRatio, etaRep, etaStay, Option.bind_some, List.length_map, unStrs, unInts, unBools, unBeats, uneL_eBeats, unSpans, unHoles, unLevels, unFigss, unRatios, unReps, unStays, F.lt, F.le, cond_true, cond_false, Bool.and_true, Bool.true_and, cast_lt hlt, decide_eq_true hlt, getD_at hc, q1, and_self, decide_true, h4, hn, List.drop_zero, beqN, hi, beq_self_eq_true, Bool.not_true, hw, stRm1, eg]
        rw [hi] at q2
        simp only [unRhb, unRBor, unClB, unInsO, unRBorw, unInsOw, preRhb1, preRBor1, preClB1, preInsO1, unstRm1, unstRm2, unstRm10, unstRm20, prlRm1, prlRm2, outRm1, outRm2, etaBeat, etaSpan, etaHole, etaLevel, etaFigs, etaRatio, etaRep, etaStay, Option.bind_some, List.length_map, unStrs, unInts, unBools, unBeats, uneL_eBeats, unSpans, unHoles, unLevels, unFigss, unRatios, unReps, unStays, F.lt, F.le, cond_true, cond_false, Bool.and_true, Bool.true_and, q2, and_self, decide_true]
        try rfl
      · simp only [outRm1, hd, F.mg, hi, beq_self_eq_true, Bool.true_or, cond_true]
    · have hlt2 : F.fstI c out 0 < out.length := by omega
      obtain ⟨y, hy⟩ := at_lt hlt2
      have hny : F.okN y = true := List.all_eq_true.1 h4 y (List.mem_of_getElem? hy)
      have hb0 : (F.fstI c out 0 == out.length) = false := beq_eq_false_iff_ne.2 hi
      have hb1 : (out.length == F.fstI c out 0) = false := beq_eq_false_iff_ne.2 (fun e => hi e.symm)
      have q2 : F.fstI c out 0 ≤ out.length ∧ out.length ≤ 100000 := ⟨by omega, by omega⟩
      cases hq : F.ltB c y
      · cases he : eqBeat y c
        · left
          refine ⟨(.ret, ⟨[(5, vI 12), (4, .own 4)], [(4, ⟨false, 29, 5, []⟩)]⟩), ?_, ?_, by simp, rfl⟩
          · rw [evRm1L]
            simp only [unRhb, unRBor, unClB, unInsO, unRBorw, unInsOw, preRhb1, preRBor1, preClB1, preInsO1, unstRm1, unstRm2, unstRm10, unstRm20, prlRm1, prlRm2, outRm1, outRm2, etaBeat, etaSpan, etaHole, etaLevel, etaFigs, etaRatio, etaRep, etaStay, Option.bind_some, List.length_map, unStrs, unInts, unBools, unBeats, uneL_eBeats, unSpans, unHoles, unLevels, unFigss, unRatios, unReps, unStays, F.lt, F.le, cond_true, cond_false, Bool.and_true, Bool.true_and, cast_lt hlt, decide_eq_true hlt, getD_at hc, q1, and_self, decide_true, h4, hn, List.drop_zero, beqN, hb0, Bool.not_false, decide_eq_true hlt2, getD_at hy, F.rborder_lt hn hny, hq, eqBeat_and, he]
          · simp only [outRm1, hd, F.mg, hb1, getD_at hy, hq, he, Bool.or_self, cond_false, Bool.not_false, cond_true]
            rfl
        · right
          refine ⟨(k + 1, out), ?_, rfl, ⟨hlt, by simp only; omega, h4⟩, by simp only; omega, ?_⟩
          · rw [evRm1L]
            simp only [unRhb, unRBor, unClB, unInsO, unRBorw, unInsOw, preRhb1, preRBor1, preClB1, preInsO1, unstRm1, unstRm2, unstRm10, unstRm20, prlRm1, prlRm2, outRm1, outRm2, etaBeat, etaSpan, etaHole, etaLevel, etaFigs, etaRatio, etaRep, etaStay, Option.bind_some, List.length_map, unStrs, unInts, unBools, unBeats, uneL_eBeats, unSpans, unHoles, unLevels, unFigss, unRatios, unReps, unStays, F.lt, F.le, cond_true, cond_false, Bool.and_true, Bool.true_and, cast_lt hlt, decide_eq_true hlt, getD_at hc, q1, and_self, decide_true, h4, hn, List.drop_zero, beqN, hb0, Bool.not_false, Bool.not_true, decide_eq_true hlt2, getD_at hy, F.rborder_lt hn hny, hq, eqBeat_and, he, hw, stRm1]
          · simp only [outRm1, hd, F.mg, hb1, getD_at hy, hq, he, Bool.or_self, cond_false, Bool.not_true]
      · right
        refine ⟨(k + 1, F.insAt (F.fstI c out 0) c out), ?_, rfl, ⟨hlt, hins, F.insAt_all h4 hn⟩, by simp only; omega, ?_⟩
        · rw [evRm1L]
          simp only [unRhb, unRBor, unClB, unInsO, unRBorw, unInsOw, preRhb1, preRBor1, preClB1, preInsO1, unstRm1, unstRm2, unstRm10, unstRm20, prlRm1, prlRm2, outRm1, outRm2, etaBeat, etaSpan, etaHole, etaLevel, etaFigs, etaRatio, etaRep, etaStay, Option.bind_some, List.length_map, unStrs, unInts, unBools, unBeats, uneL_eBeats, unSpans, unHoles, unLevels, unFigss, unRatios, unReps, unStays, F.lt, F.le, cond_true, cond_false, Bool.and_true, Bool.true_and, cast_lt hlt, decide_eq_true hlt, getD_at hc, q1, and_self, decide_true, h4, hn, List.drop_zero, beqN, hb0, Bool.not_false, decide_eq_true hlt2, getD_at hy, F.rborder_lt hn hny, hq, q2, hw, stRm1, eg]
        · simp only [outRm1, hd, F.mg, hb1, getD_at hy, hq, Bool.or_true, cond_true]
  · have : k = b.length := by omega
    subst this
    left
    refine ⟨(.exit 0, ⟨[(8, .own 25000)], [(25000, ⟨false, 29, 5, out.map eBeat⟩)]⟩), ?_, ?_, by simp, rfl⟩
    · rw [evRm1L]
      simp only [cast_ge, cond_false]
    · simp only [outRm1, List.drop_length, F.mg]
      rfl

theorem evRm (a : List Beat) (b : List Beat) : (runF enRm false Try.f6 [.sl (a.map eBeat), .sl (b.map eBeat)]).val =
  Option.bind (unenc encRhb [AV.sl (List.map eBeat a)]) fun (z : List Beat) => bif F.checkB z != (0 : Int) then some (AV.tup [AV.sl [], (vI (F.checkB z))], []) else
  Option.bind (unenc encRhb [AV.sl (List.map eBeat b)]) fun (z : List Beat) => bif F.checkB z != (0 : Int) then some (AV.tup [AV.sl [], (vI (F.checkB z))], []) else
  Option.bind (unenc encClB [AV.sl (List.map eBeat a)]) fun (z : List Beat) => bif decide (List.length z ≤ (100000 : Nat)) then Option.bind (unenc stRm11 (St.mk [(27, (vI (0
  : Int))), (26, (vI (↑(List.length (List.map eBeat b)) : Int))), (25, AV.sl (List.map eBeat b)), (8, .own 25000)] [(25000, Blk.mk false 29 5 (List.map eBeat z))])) fun (z :
  List Beat × Nat × List Beat) => bif decide (List.length z.fst ≤ (3000 : Nat) ∧ z.snd.fst ≤ List.length z.fst ∧ List.length z.snd.snd ≤ (3000 : Nat) + z.snd.fst) &&
  List.all z.snd.snd F.okN && List.all z.fst F.okN && true then bif (F.mg z.snd.snd (List.drop z.snd.fst z.fst)).snd then Option.bind (unenc encRhb [AV.sl (List.map eBeat
  (F.mg z.snd.snd (List.drop z.snd.fst z.fst)).fst)]) fun (z_1 : List Beat) => bif F.checkB z_1 != (0 : Int) then some (AV.tup [AV.sl [], (vI (F.checkB z_1))], []) else some
  (AV.tup [AV.sl (List.map eBeat (F.mg z.snd.snd (List.drop z.snd.fst z.fst)).fst), (vI (0 : Int))], []) else some (AV.tup [AV.sl [], (vI (12 : Int))], []) else none else
  none := (runFR_val).symm.trans (by kernel_rfl)

def encRm1 (a : List Beat) (b : List Beat) : List AV := [.sl (a.map eBeat), .sl (b.map eBeat)]

def encRm (a : (List Beat) × (List Beat)) : List AV := encRm1 a.1 a.2

theorem encRm_inj (a a' : (List Beat) × (List Beat)) (h : encRm a = encRm a') : a = a' := by
  simp only [encRm, encRm1] at h
  try simp [strs_inj, ints_inj, bools_inj, eBeats_inj, eBeat_iff, eL_eBeats_inj, eSpans_inj, eSpan_iff, eHoles_inj, eHole_iff, eLevels_inj, eLevel_iff, eFigss_inj, eFigs_iff, eRatios_inj, eRatio_iff, eReps_inj, eRep_iff, eStays_inj, eStay_iff] at h
  grind

theorem unRm (a : List Beat) (b : List Beat) : unenc encRm ([AV.sl (List.map eBeat a), AV.sl (List.map eBeat b)]) = some (a, b) := unenc_of encRm_inj (a, b) rfl

def resRm1 (a : List Beat) (b : List Beat) : AV × Heap := (.tup [.sl ((F.mergeR a b).1.map eBeat), vI (F.mergeR a b).2], [])

def preRm1 (a : List Beat) (b : List Beat) : Bool := true

noncomputable def oRm : Orc := orc 6 false encRm (fun a => preRm1 a.1 a.2) fun a => resRm1 a.1 a.2

theorem okRm : OrcOK Try.prog noG oRm := by
  refine mk_ok Try.f6 (keep := false) (by kernel_rfl) (by kernel_rfl) enRm_ok mixed (two_loops (x0 := loopN Try.f6 0) (x1 := loopN Try.f6 1) (by kernel_rfl) (lpo_ok ?_) (lpo_ok ?_)) (by first | exact fun _ _ => ⟨rfl, rfl⟩ | (intro h; cases h)) ?_
  · rintro ⟨b, k, out⟩ hp
    exact lpRm1_ok b k out hp
  · rintro ⟨b, k, out, c, i⟩ hp
    exact lpRm2_ok b k out c i hp
  rintro ⟨a, b⟩ hpre hok
  show (runF enRm false _ (encRm1 _ _)).val = some (resRm1 _ _)
  unfold encRm1 resRm1
  rw [evRm]
  simp only [unRhb, unRBor, unClB, unInsO, unRBorw, unInsOw, preRhb1, preRBor1, preClB1, preInsO1, unstRm1, unstRm2, unstRm10, unstRm20, prlRm1, prlRm2, outRm1, outRm2, etaBeat, etaSpan, etaHole, etaLevel, etaFigs, etaRatio, etaRep, etaStay, Option.bind_some, List.length_map, unStrs, unInts, unBools, unBeats, uneL_eBeats, unSpans, unHoles, unLevels, unFigss, unRatios, unReps, unStays, F.lt, F.le, cond_true, cond_false, Bool.and_true, Bool.true_and, F.mergeR]
  by_cases h1 : F.checkB a = 0
  case neg =>
    rw [bne1 h1]; rfl
  rw [bne0 h1]
  simp only [cond_false]
  by_cases h2 : F.checkB b = 0
  case neg =>
    rw [bne1 h2]; rfl
  rw [bne0 h2]
  have l1 := F.check_len h1
  have l2 := F.check_len h2
  have q1 : a.length ≤ 100000 := by omega
  have q2 : b.length ≤ 3000 ∧ 0 ≤ b.length ∧ a.length ≤ 3000 + 0 := ⟨l2, Nat.zero_le _, l1⟩
  simp only [unRhb, unRBor, unClB, unInsO, unRBorw, unInsOw, preRhb1, preRBor1, preClB1, preInsO1, unstRm1, unstRm2, unstRm10, unstRm20, prlRm1, prlRm2, outRm1, outRm2, etaBeat, etaSpan, etaHole, etaLevel, etaFigs, etaRatio, etaRep, etaStay, Option.bind_some, List.length_map, unStrs, unInts, unBools, unBeats, uneL_eBeats, unSpans, unHoles, unLevels, unFigss, unRatios, unReps, unStays, F.lt, F.le, cond_true, cond_false, Bool.and_true, Bool.true_and, q1, q2, and_self, decide_true, F.check_okN h1, F.check_okN h2, List.drop_zero]
  cases (F.mg a b).2
  · rfl
  · by_cases h3 : F.checkB (F.mg a b).1 = 0
    · rw [bne0 h3]; rfl
    · rw [bne1 h3]; rfl

end M
end Go.Proofs.Ytlnflhmepnbcmaa
