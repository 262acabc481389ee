/- What is proved here: what Missing, and the law's works, return on plain data (no statement of the seat). -/
import Derived.Test.YtnkaadiofjoacaaB3
namespace Go.Proofs.Ytnkaadiofjoacaa
open Go Go.RowKit
set_option linter.unusedVariables false
set_option linter.unusedSimpArgs false

/-- The number that is next behind some beats. -/
def F.nextB (p : Option Beat) (n : Int) (b : Beat) : Int := match p with
  | some o => bif !(o.session.toList == b.session.toList) then 1 else n
  | none => n

def F.missS (a : Option Beat × Int × List Hole) (b : Beat) : Option Beat × Int × List Hole :=
  (some b, IntKind.i64.wrap (b.no + 1), bif F.lt (F.nextB a.1 a.2.1 b) b.no then a.2.2 ++ [⟨b.session, F.nextB a.1 a.2.1 b, b.no⟩] else a.2.2)

def F.missL (p : Option Beat) (n : Int) (acc : List Hole) (l : List Beat) : List Hole := (l.foldl F.missS (p, n, acc)).2.2

def F.missing (l : List Beat) : List Hole × Int := bif F.checkB l != 0 then ([], F.checkB l) else (F.missL none 1 [] l, 0)

theorem F.checkB_len {l : List Beat} (h : F.checkB l = 0) : l.length ≤ 3000 := by
  unfold F.checkB at h
  cases hd : decide (3000 < l.length)
  · simpa using hd
  · rw [hd] at h; cases h

namespace M

def stMis (l : List Beat) (n : Int) (acc : List Hole) (k : Nat) : St := ⟨[(16, vI k), (15, vI l.length), (14, .sl (l.map eBeat)), (6, vI n), (5, .own 5), (0, .sl (l.map eBeat))], [(5, ⟨false, 64, 3, acc.map eHole⟩)]⟩

def stMis1 (a : (List Beat) × Int × (List Hole) × Nat) : St := stMis a.1 a.2.1 a.2.2.1 a.2.2.2

theorem stMis_inj (a a' : (List Beat) × Int × (List Hole) × Nat) (h : stMis1 a = stMis1 a') : a = a' := by
  simp only [stMis1, stMis] at h
  try simp [strs_inj, ints_inj, bools_inj, eL_eIs_inj, eBeats_inj, eBeat_iff, eL_eBeats_inj, eSpans_inj, eSpan_iff, eHoles_inj, eHole_iff, eLevels_inj, eLevel_iff, eFigss_inj, eFigs_iff, eRatios_inj, eRatio_iff, eReps_inj, eRep_iff, eStays_inj, eStay_iff] at h
  grind

theorem unstMis (l : List Beat) (n : Int) (acc : List Hole) (k : Nat) : unenc stMis1 (St.mk [(16, (vI (↑k : Int))), (15, (vI (↑(List.length l) : Int))), (14, AV.sl (List.map eBeat l)), (6, (vI n)), (5, .own 5), (0, AV.sl (List.map eBeat l))] [(5, Blk.mk
  false 64 3 (List.map eHole acc))]) = some (l, n, acc, k) := unenc_of stMis_inj (l, n, acc, k) rfl

theorem unstMis0 (l : List Beat) (n : Int)  : unenc stMis1 (St.mk [(16, (vI (0 : Int))), (15, (vI (↑(List.length l) : Int))), (14, AV.sl (List.map eBeat l)), (6, (vI n)), (5, .own 5), (0, AV.sl (List.map eBeat l))] [(5, Blk.mk
  false 64 3 [])]) = some (l, n, [], 0) := unenc_of stMis_inj (l, n, [], 0) rfl

def outMis (l : List Beat) (n : Int) (acc : List Hole) (k : Nat) : T (Ex × St) := .ret (.exit 0, ⟨[(5, .own 5)], [(5, ⟨false, 64, 3, (F.missL (F.prev l k) n acc (l.drop k)).map eHole⟩)]⟩)

noncomputable def prlMis (l : List Beat) (n : Int) (acc : List Hole) (k : Nat) : Bool := decide (l.length ≤ 3000) && decide (k ≤ l.length) && decide (acc.length ≤ k)

noncomputable def lpMis : Nat × (St → T (Ex × St)) := (7, lpo [16, 15, 14, 6, 5, 0] [5] stMis1 (fun a => prlMis a.1 a.2.1 a.2.2.1 a.2.2.2) fun a => outMis a.1 a.2.1 a.2.2.1 a.2.2.2)

noncomputable def enMis : Env := envH ty noG lks [oChb] [] [] [lpMis]

theorem enMis_ok : EnvOK Try.prog enMis := by
  refine envH_ok lks_ok ty_ok ?_ ?_
  · simp only [List.forall_mem_cons]
    exact ⟨okChb, by simp⟩
  · simp

theorem evMisL (l : List Beat) (n : Int) (acc : List Hole) (k : Nat) : ((exec enMis (loopN Try.f23 0) (stMis l n acc k)).bind (lessX ([16, 15, 14, 6, 5, 0], [5]) ([5], [5]) ([], []))).val =
  bif decide ((↑k : Int) < (↑(List.length l) : Int)) then Option.bind (unenc (List.map eBeat) (List.map eBeat l)) fun (z : List Beat) => bif decide (k < List.length z) then
  bif decide ((0 : Int) < (↑k : Int)) then Option.bind (idx (IntKind.wrap IntKind.i64 ((↑k : Int) - (1 : Int)))) fun (z_1 : Nat) => Option.bind (unenc (List.map eBeat)
  (List.map eBeat l)) fun (z_2 : List Beat) => bif decide (z_1 < List.length z_2) then bif bif decide ((0 : Int) < (↑k : Int)) then !ByteArray.toList (List.getD z_2 z_1
  (Beat.mk (ByteArray.mk (Array.mk [])) (0 : Int) (0 : Int) (0 : Int) (0 : Int))).session == ByteArray.toList (List.getD z k (Beat.mk (ByteArray.mk (Array.mk [])) (0 : Int)
  (0 : Int) (0 : Int) (0 : Int))).session else false then bif decide ((1 : Int) < (List.getD z k (Beat.mk (ByteArray.mk (Array.mk [])) (0 : Int) (0 : Int) (0 : Int) (0 :
  Int))).no) then bif Nat.ble ((List.length (List.map eHole acc) + (1 : Nat)) * (32 : Nat)) (140737488355328 : Nat) && true then some (Ex.normal, St.mk [(16, (vI
  (IntKind.wrap IntKind.i64 ((↑k : Int) + (1 : Int))))), (15, (vI (↑(List.length l) : Int))), (14, AV.sl (List.map eBeat l)), (6, (vI (IntKind.wrap IntKind.i64 ((List.getD z
  k (Beat.mk (ByteArray.mk (Array.mk [])) (0 : Int) (0 : Int) (0 : Int) (0 : Int))).no + (1 : Int))))), (5, .own 5), (0, AV.sl (List.map eBeat l))] [(5, Blk.mk false 64 3
  (List.map eHole acc ++ [[(vS (List.getD z k (Beat.mk (ByteArray.mk (Array.mk [])) (0 : Int) (0 : Int) (0 : Int) (0 : Int))).session), (vI (1 : Int)), (vI (List.getD z k
  (Beat.mk (ByteArray.mk (Array.mk [])) (0 : Int) (0 : Int) (0 : Int) (0 : Int))).no)]]))]) else none else some (Ex.normal, St.mk [(16, (vI (IntKind.wrap IntKind.i64 ((↑k :
  Int) + (1 : Int))))), (15, (vI (↑(List.length l) : Int))), (14, AV.sl (List.map eBeat l)), (6, (vI (IntKind.wrap IntKind.i64 ((List.getD z k (Beat.mk (ByteArray.mk
  (Array.mk [])) (0 : Int) (0 : Int) (0 : Int) (0 : Int))).no + (1 : Int))))), (5, .own 5), (0, AV.sl (List.map eBeat l))] [(5, Blk.mk false 64 3 (List.map eHole acc))])
  else bif decide (n < (List.getD z k (Beat.mk (ByteArray.mk (Array.mk [])) (0 : Int) (0 : Int) (0 : Int) (0 : Int))).no) then bif Nat.ble ((List.length (List.map eHole acc)
  + (1 : Nat)) * (32 : Nat)) (140737488355328 : Nat) && true then some (Ex.normal, St.mk [(16, (vI (IntKind.wrap IntKind.i64 ((↑k : Int) + (1 : Int))))), (15, (vI
  (↑(List.length l) : Int))), (14, AV.sl (List.map eBeat l)), (6, (vI (IntKind.wrap IntKind.i64 ((List.getD z k (Beat.mk (ByteArray.mk (Array.mk [])) (0 : Int) (0 : Int) (0
  : Int) (0 : Int))).no + (1 : Int))))), (5, .own 5), (0, AV.sl (List.map eBeat l))] [(5, Blk.mk false 64 3 (List.map eHole acc ++ [[(vS (List.getD z k (Beat.mk
  (ByteArray.mk (Array.mk [])) (0 : Int) (0 : Int) (0 : Int) (0 : Int))).session), (vI n), (vI (List.getD z k (Beat.mk (ByteArray.mk (Array.mk [])) (0 : Int) (0 : Int) (0 :
  Int) (0 : Int))).no)]]))]) else none else some (Ex.normal, St.mk [(16, (vI (IntKind.wrap IntKind.i64 ((↑k : Int) + (1 : Int))))), (15, (vI (↑(List.length l) : Int))), (14,
  AV.sl (List.map eBeat l)), (6, (vI (IntKind.wrap IntKind.i64 ((List.getD z k (Beat.mk (ByteArray.mk (Array.mk [])) (0 : Int) (0 : Int) (0 : Int) (0 : Int))).no + (1 :
  Int))))), (5, .own 5), (0, AV.sl (List.map eBeat l))] [(5, Blk.mk false 64 3 (List.map eHole acc))]) else none else bif decide ((0 : Int) < (↑k : Int)) then none else bif
  decide ((0 : Int) < (↑k : Int)) then none else bif decide ((0 : Int) < (↑k : Int)) then none else bif decide (n < (List.getD z k (Beat.mk (ByteArray.mk (Array.mk [])) (0 :
  Int) (0 : Int) (0 : Int) (0 : Int))).no) then bif Nat.ble ((List.length (List.map eHole acc) + (1 : Nat)) * (32 : Nat)) (140737488355328 : Nat) && true then some
  (Ex.normal, St.mk [(16, (vI (IntKind.wrap IntKind.i64 ((↑k : Int) + (1 : Int))))), (15, (vI (↑(List.length l) : Int))), (14, AV.sl (List.map eBeat l)), (6, (vI
  (IntKind.wrap IntKind.i64 ((List.getD z k (Beat.mk (ByteArray.mk (Array.mk [])) (0 : Int) (0 : Int) (0 : Int) (0 : Int))).no + (1 : Int))))), (5, .own 5), (0, AV.sl
  (List.map eBeat l))] [(5, Blk.mk false 64 3 (List.map eHole acc ++ [[(vS (List.getD z k (Beat.mk (ByteArray.mk (Array.mk [])) (0 : Int) (0 : Int) (0 : Int) (0 :
  Int))).session), (vI n), (vI (List.getD z k (Beat.mk (ByteArray.mk (Array.mk [])) (0 : Int) (0 : Int) (0 : Int) (0 : Int))).no)]]))]) else none else some (Ex.normal, St.mk
  [(16, (vI (IntKind.wrap IntKind.i64 ((↑k : Int) + (1 : Int))))), (15, (vI (↑(List.length l) : Int))), (14, AV.sl (List.map eBeat l)), (6, (vI (IntKind.wrap IntKind.i64
  ((List.getD z k (Beat.mk (ByteArray.mk (Array.mk [])) (0 : Int) (0 : Int) (0 : Int) (0 : Int))).no + (1 : Int))))), (5, .own 5), (0, AV.sl (List.map eBeat l))] [(5, Blk.mk
  false 64 3 (List.map eHole acc))]) else none else some (Ex.exit (0 : Nat), St.mk [(5, .own 5)] [(5, Blk.mk false 64 3 (List.map eHole acc))]) := by kernel_rfl

theorem lpMis_ok (l : List Beat) (n : Int) (acc : List Hole) (k : Nat) (hp : prlMis l n acc k = true) : ∀ ex s', (outMis l n acc k).val = some (ex, s') → LoopOK enMis (loopN Try.f23 0) (stMis l n acc k) ex s' := by
  simp only [prlMis, Bool.and_eq_true, decide_eq_true_eq] at hp
  obtain ⟨⟨h1, h2⟩, h3⟩ := hp
  refine loop_fold (xs := l) (st := fun a k => stMis l a.2.1 a.2.2 k) (f := F.missS) (fin := fun a => (.exit 0, ⟨[(5, .own 5)], [(5, ⟨false, 64, 3, a.2.2.map eHole⟩)]⟩)) (I := fun a k => a.1 = F.prev l k ∧ a.2.2.length ≤ k) (n := ([16, 15, 14, 6, 5, 0], [5])) (e := ([5], [5])) (r := ([], [])) ?_ (fun _ => ⟨by simp, rfl⟩) (fun _ _ => rfl) ?_ (F.prev l k, n, acc) k h2 ⟨rfl, h3⟩
  · rintro ⟨p, n, acc⟩ _
    rw [evMisL]; simp
  · rintro ⟨p, n, acc⟩ k y hy ⟨hp, hI⟩
    have hlt := lt_at hy
    simp only at hp hI
    subst hp
    have hroom : Nat.ble ((acc.length + 1) * 32) 140737488355328 = true := ble_t (by omega)
    refine ⟨?_, ?_⟩
    · cases k with
      | zero =>
        have hz : decide ((0 : Int) < ((0 : Nat) : Int)) = false := rfl
        rw [evMisL]
        simp only [unChb, preChb1, unstMis, unstMis0, prlMis, outMis, etaBeat, etaSpan, etaHole, etaLevel, etaFigs, etaRatio, etaRep, etaStay, Option.bind_some, List.length_map, unStrs, unInts, unBools, uneL_eIs, unBeats, uneL_eBeats, unSpans, unHoles, unLevels, unFigss, unRatios, unReps, unStays, F.lt, F.le, cond_true, cond_false, Bool.and_true, Bool.true_and, cast_lt hlt, decide_eq_true hlt, next_at hlt (by omega : l.length ≤ 9223372036854775807), getD_at hy, stMis, F.missS, F.nextB, F.prev, hroom, appWHoles, hz]
        by_cases h : n < y.no <;> simp only [h, decide_true, decide_false, cond_true, cond_false]
      | succ j =>
        have ho : l[j]? = some l[j] := List.getElem?_eq_getElem (by omega)
        have hz : decide ((0 : Int) < ((j + 1 : Nat) : Int)) = true := decide_eq_true (by omega)
        have hlt' : j < l.length := by omega
        rw [evMisL]
        simp only [unChb, preChb1, unstMis, unstMis0, prlMis, outMis, etaBeat, etaSpan, etaHole, etaLevel, etaFigs, etaRatio, etaRep, etaStay, Option.bind_some, List.length_map, unStrs, unInts, unBools, uneL_eIs, unBeats, uneL_eBeats, unSpans, unHoles, unLevels, unFigss, unRatios, unReps, unStays, F.lt, F.le, cond_true, cond_false, Bool.and_true, Bool.true_and, cast_lt hlt, decide_eq_true hlt, decide_eq_true hlt', next_at hlt (by omega : l.length ≤ 9223372036854775807), getD_at hy, getD_at ho, stMis, F.missS, F.nextB, F.prev, hroom, hz, ho, idx_sub (by omega : j + 1 ≤ 9223372036854775807), appWHoles]
        cases (l[j].session.toList == y.session.toList) <;> simp only [Bool.not_true, Bool.not_false, cond_true, cond_false]
        · cases decide (1 < y.no) <;> rfl
        · cases decide (n < y.no) <;> rfl
    · refine ⟨hy.symm, ?_⟩
      simp only [F.missS]
      cases F.lt (F.nextB (F.prev l k) n y) y.no
      · simp only [cond_false]; omega
      · simp only [cond_true, List.length_append, List.length_singleton]; omega

theorem evMis (l : List Beat) : (runF enMis false Try.f23 [.sl (l.map eBeat)]).val =
  Option.bind (unenc encChb [AV.sl (List.map eBeat l)]) fun (z : List Beat) => bif F.checkB z != (0 : Int) then some (AV.tup [AV.sl [], (vI (F.checkB z))], []) else
  Option.bind (unenc stMis1 (St.mk [(16, (vI (0 : Int))), (15, (vI (↑(List.length (List.map eBeat l)) : Int))), (14, AV.sl (List.map eBeat l)), (6, (vI (1 : Int))), (5, .own
  5), (0, AV.sl (List.map eBeat l))] [(5, Blk.mk false 64 3 [])])) fun (z : List Beat × Int × List Hole × Nat) => bif decide (List.length z.fst ≤ (3000 : Nat)) && decide
  (z.snd.snd.snd ≤ List.length z.fst) && decide (List.length z.snd.snd.fst ≤ z.snd.snd.snd) && true then some (AV.tup [AV.sl (List.map eHole (F.missL (F.prev z.fst
  z.snd.snd.snd) z.snd.fst z.snd.snd.fst (List.drop z.snd.snd.snd z.fst))), (vI (0 : Int))], []) else none := by kernel_rfl

def encMis1 (l : List Beat) : List AV := [.sl (l.map eBeat)]

def encMis (a : (List Beat)) : List AV := encMis1 a

theorem encMis_inj (a a' : (List Beat)) (h : encMis a = encMis a') : a = a' := by
  simp only [encMis, encMis1] at h
  try simp [strs_inj, ints_inj, bools_inj, eL_eIs_inj, eBeats_inj, eBeat_iff, eL_eBeats_inj, eSpans_inj, eSpan_iff, eHoles_inj, eHole_iff, eLevels_inj, eLevel_iff, eFigss_inj, eFigs_iff, eRatios_inj, eRatio_iff, eReps_inj, eRep_iff, eStays_inj, eStay_iff] at h
  grind

theorem unMis (l : List Beat) : unenc encMis ([AV.sl (List.map eBeat l)]) = some (l) := unenc_of encMis_inj (l) rfl

def resMis1 (l : List Beat) : AV × Heap := (.tup [.sl ((F.missing l).1.map eHole), vI (F.missing l).2], [])

def preMis1 (l : List Beat) : Bool := true

noncomputable def oMis : Orc := orc 23 false encMis (fun a => preMis1 a) fun a => resMis1 a

theorem okMis : OrcOK Try.prog noG oMis := by
  refine mk_ok Try.f23 (keep := false) (by kernel_rfl) (by kernel_rfl) enMis_ok mixed (one_loop (x0 := loopN Try.f23 0) (by kernel_rfl) (lpo_ok ?_)) (by first | exact fun _ _ => ⟨rfl, rfl⟩ | (intro h; cases h)) ?_
  · rintro ⟨l, n, acc, k⟩ hp
    exact lpMis_ok l n acc k hp
  rintro l hpre hok
  show (runF enMis false _ (encMis1 _)).val = some (resMis1 _)
  unfold encMis1 resMis1
  rw [evMis]
  have hp : F.prev l 0 = none := rfl
  simp only [unChb, preChb1, unstMis, unstMis0, prlMis, outMis, etaBeat, etaSpan, etaHole, etaLevel, etaFigs, etaRatio, etaRep, etaStay, Option.bind_some, List.length_map, unStrs, unInts, unBools, uneL_eIs, unBeats, uneL_eBeats, unSpans, unHoles, unLevels, unFigss, unRatios, unReps, unStays, F.lt, F.le, cond_true, cond_false, Bool.and_true, Bool.true_and, List.drop_zero, Nat.zero_le, decide_true, F.missing, hp, List.length_nil, List.map_nil]
  cases h : F.checkB l != 0
  · have hl : decide (l.length ≤ 3000) = true := decide_eq_true (F.checkB_len (by simpa using h))
    have h0 : F.checkB l = 0 := by simpa using h
    simp only [hl, cond_false, cond_true]
  · rfl

noncomputable def enWrk : Env := envH ty noG lks [oMis, oEqHo] [] [] []

theorem enWrk_ok : EnvOK Try.prog enWrk := by
  refine envH_ok lks_ok ty_ok ?_ ?_
  · simp only [List.forall_mem_cons]
    exact ⟨okMis, okEqHo, by simp⟩
  · simp

def wkL : List Beat := [⟨⟨#[97]⟩, 3, 0, 1, 0⟩]

theorem wk_miss : F.missing wkL = ([⟨⟨#[97]⟩, 1, 3⟩], 0) := by kernel_rfl

theorem evWrk  : (runF enWrk false Try.f8 []).val =
  Option.bind (unenc encMis [AV.sl [[(vS (ByteArray.mk (Array.mk [(97 : UInt8)]))), (vI (3 : Int)), (vI (0 : Int)), (vI (1 : Int)), (vI (0 : Int))]]]) fun (z : List Beat) =>
  bif (F.missing z).snd == (0 : Int) then bif (F.missing z).snd == (0 : Int) then bif (F.missing z).snd == (0 : Int) then Option.bind (unenc encEqHo [AV.sl (List.map eHole
  (F.missing z).fst), AV.sl [[(vS (ByteArray.mk (Array.mk [(97 : UInt8)]))), (vI (1 : Int)), (vI (3 : Int))]]]) fun (z_1 : List Hole × List Hole) => some ((vB (bif
  (F.missing z).snd == (0 : Int) then F.eqL eqHole z_1.fst z_1.snd else false)), []) else some ((vB false), []) else bif (F.missing z).snd == (0 : Int) then Option.bind
  (unenc encEqHo [AV.sl (List.map eHole (F.missing z).fst), AV.unk]) fun (z_1 : List Hole × List Hole) => some ((vB (bif (F.missing z).snd == (0 : Int) then F.eqL eqHole
  z_1.fst z_1.snd else false)), []) else some ((vB false), []) else bif (F.missing z).snd == (0 : Int) then none else bif (F.missing z).snd == (0 : Int) then Option.bind
  (unenc encEqHo [AV.sl (List.map eHole (F.missing z).fst), AV.unk]) fun (z_1 : List Hole × List Hole) => some ((vB (bif (F.missing z).snd == (0 : Int) then F.eqL eqHole
  z_1.fst z_1.snd else false)), []) else some ((vB false), []) := by kernel_rfl

def encWrk1  : List AV := []

def encWrk (a : Unit) : List AV := encWrk1

theorem encWrk_inj (a a' : Unit) (h : encWrk a = encWrk a') : a = a' := rfl

theorem unWrk  : unenc encWrk ([]) = some () := unenc_of encWrk_inj () rfl

def resWrk1  : AV × Heap := (vB true, [])

def preWrk1  : Bool := true

noncomputable def oWrk : Orc := orc 8 true encWrk (fun a => preWrk1) fun a => resWrk1

theorem okWrk : OrcOK Try.prog noG oWrk := by
  refine mk_ok Try.f8 (keep := false) (by kernel_rfl) (by kernel_rfl) enWrk_ok mixed (no_loops (by kernel_rfl)) (by first | exact fun _ _ => ⟨rfl, rfl⟩ | (intro h; cases h)) ?_
  rintro ⟨⟩ hpre hok
  show (runF enWrk false _ (encWrk1 )).val = some (resWrk1 )
  unfold encWrk1 resWrk1
  rw [evWrk]
  show (Option.bind (unenc encMis (encMis wkL)) _ : Option (AV × Heap)) = _
  rw [unenc_of encMis_inj wkL rfl, Option.bind_some]
  have e : unenc encEqHo [.sl ([(⟨⟨#[97]⟩, 1, 3⟩ : Hole)].map eHole), .sl [[vS ⟨#[97]⟩, vI 1, vI 3]]] = some ([⟨⟨#[97]⟩, 1, 3⟩], [⟨⟨#[97]⟩, 1, 3⟩]) := unenc_of encEqHo_inj ([⟨⟨#[97]⟩, 1, 3⟩], [⟨⟨#[97]⟩, 1, 3⟩]) rfl
  simp only [wk_miss, beq_self_eq_true, cond_true]
  show (Option.bind (unenc encEqHo [.sl ([(⟨⟨#[97]⟩, 1, 3⟩ : Hole)].map eHole), .sl [[vS ⟨#[97]⟩, vI 1, vI 3]]]) _ : Option (AV × Heap)) = _
  rw [e]
  simp only [Option.bind_some, F.eqL_refl eqHole_refl]

end M
end Go.Proofs.Ytnkaadiofjoacaa
