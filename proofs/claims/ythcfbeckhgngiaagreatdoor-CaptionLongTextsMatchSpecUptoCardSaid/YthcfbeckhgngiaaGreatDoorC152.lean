/- What is proved here: Long of both (no statement of the seat). -/
import Derived.Test.YthcfbeckhgngiaaGreatDoorC151
import Derived.Test.YthcfbeckhgngiaaGreatDoorC9
namespace Go.Proofs.YthcfbeckhgngiaaGreatDoor
open Go Go.RowKit
set_option linter.unusedVariables false
set_option linter.unusedSimpArgs false

theorem F.lgA1_ge : ∀ (m : List Cap) (s : ByteArray), (∀ c ∈ m, F.capW c = true) → s.size ≤ (F.lgA1 m s).size
  | [], s, _ => Nat.le_refl _
  | c :: r, s, h => by
    have h1 := F.lgA1_ge r (F.lgC c s) fun d hd => h d (List.mem_cons_of_mem _ hd)
    have h2 := (F.lgC_size s (h c (List.mem_cons_self ..))).2
    rw [F.lgA1]
    omega

namespace M

theorem evLgp (l : List Cap) : (runF enLgp false Tryz.f9 [.sl (l.map eCap)]).val =
  Option.bind (unenc encChC [AV.sl (List.map eCap l)]) fun (z : List Cap) => bif F.smC z then bif F.chkC z != (0 : Int) then some (AV.tup [(vS (ByteArray.mk (Array.mk []))), (vI (F.chkC z))], []) else Option.bind (unenc encWst ([.ptr 900 0 0, (vS (ByteArray.mk (Array.mk [(87 : UInt8), (69 : UInt8), (66 : UInt8), (86 : UInt8), (84 : UInt8), (84 : UInt8), (10 : UInt8), (10 : UInt8)])))], [(900, Blk.mk true 55 0 [[AV.v (Value.pointer none), AV.v (Value.slice none (0 : Nat) (0 : Nat))]])])) fun (z : Option ByteArray × ByteArray) => bif decide (F.bldLen z.fst + ByteArray.size z.snd ≤ (140737488355328 : Nat)) then bif match z.fst with | some val => false | none => true then Option.bind (unenc stLgp1 (St.mk [(18, (vI (0 : Int))), (17, (vI (↑(List.length (List.map eCap l)) : Int))), (16, AV.sl (List.map eCap l)), (5, .ptr 5 0 0)] [(16000, Blk.mk false 5 1 (F.eUs z.snd)), (5, Blk.mk true 55 0 [[.ptr 5 0 0, .own 16000]])])) fun (z : List Cap × ByteArray × Nat) => bif List.all z.fst F.capW && decide (List.length z.fst ≤ (500 : Nat)) && decide (z.snd.snd ≤ List.length z.fst) && decide (ByteArray.size z.snd.fst ≤ (100 : Nat) + (16000 : Nat) * z.snd.snd) && true then Option.bind (unenc encBst ([.ptr 900 0 0], [(901, Blk.mk false 5 1 (F.eUs (F.lgA1 (List.drop z.snd.snd z.fst) z.snd.fst))), (900, Blk.mk true 55 0 [[.ptr 900 0 0, .own 901]])])) fun (z : Option ByteArray) => bif (match z with | some val => false | none => true) || decide ((0 : Nat) < ByteArray.size (F.bldS z)) then bif match z with | some val => false | none => true then none else Option.bind (unenc encBndL [(vS (F.bldS z))]) fun (z : ByteArray) => some (AV.tup [(vS (F.bndS z)), (vI (F.bndF z))], []) else none else none else none else none else none := (runFR_val).symm.trans (by kernel_rfl)

def encLgp1 (l : List Cap) : List AV := [.sl (l.map eCap)]

def encLgp (a : (List Cap)) : List AV := encLgp1 a

theorem encLgp_inj (a a' : (List Cap)) (h : encLgp a = encLgp a') : a = a' := by
  simp only [encLgp, encLgp1] at h
  try simp [strs_inj, ints_inj, bools_inj, eL_eIs_inj, eCaps_inj, eCap_iff, eL_eCaps_inj, eMchs_inj, eMch_iff, eWrds_inj, eWrd_iff, eFnds_inj, eFnd_iff, eRatios_inj, eRatio_iff, eWays_inj, eWay_iff] at h
  grind

theorem unLgp (l : List Cap) : unenc encLgp ([AV.sl (List.map eCap l)]) = some (l) := unenc_of encLgp_inj (l) rfl

def resLgp1 (l : List Cap) : AV × Heap := (.tup [vS (F.longS l), vI (F.longF l)], [])

def preLgp1 (l : List Cap) : Bool := F.smC l

noncomputable def oLgp : Orc := orc 9 false encLgp (fun a => preLgp1 a) fun a => resLgp1 a

theorem okLgp : OrcOK Tryz.prog noG oLgp := by
  refine mk_ok Tryz.f9 (keep := false) (by kernel_rfl) (by kernel_rfl) enLgp_ok mixed (two_loops (x0 := loopN Tryz.f9 0) (x1 := loopN Tryz.f9 1) (by kernel_rfl) (lpo_ok ?_) (lpo_ok ?_)) (by first | exact fun _ _ => ⟨rfl, rfl⟩ | (intro h; cases h)) ?_
  · rintro ⟨l, s, k⟩ hp
    exact lpLgp_ok l s k hp
  · rintro ⟨l, ls, k, s, j⟩ hp
    exact lpLgi_ok l ls k s j hp
  rintro l hpre hok
  show (runF enLgp false _ (encLgp1 _)).val = some (resLgp1 _)
  unfold encLgp1 resLgp1
  rw [evLgp]
  simp only [preLgp1] at hpre
  simp only [unChC, unIta, unTms, unRAll, unBndL, unWst, unBst, unTmsw, preChC1, preIta1, preTms1, preRAll1, preBndL1, preWst1, preBst1, unstLgp, unstLgi, unstLgp0, unstLgi0, prlLgp, prlLgi, outLgp, outLgi, etaCap, etaMch, etaWrd, etaFnd, etaRatio, etaWay, Option.bind_some, List.length_map, unStrs, unInts, unBools, uneL_eIs, unCaps, uneL_eCaps, unMchs, unWrds, unFnds, unRatios, unWays, F.lt, F.le, cond_true, cond_false, Bool.and_true, Bool.true_and, unWstU, unBstU, F.bldS_some, F.bldLen_some, hpre, F.longS, F.longF]
  cases hc : F.chkC l != 0
  · have hc0 : F.chkC l = 0 := by simpa using hc
    obtain ⟨g1, g2⟩ := F.chkC_w hc0
    have hp := F.lgA1_ge l F.web2 (List.all_eq_true.1 g2)
    have w8 : F.web2.size = 8 := rfl
    have e0 : decide (F.bldLen none + (ByteArray.mk (Array.mk [87, 69, 66, 86, 84, 84, 10, 10])).size ≤ 140737488355328) = true := rfl
    have e1 : decide ((ByteArray.mk (Array.mk [87, 69, 66, 86, 84, 84, 10, 10])).size ≤ 100 + 16000 * 0) = true := rfl
    have u1 : unenc stLgp1 (St.mk [(18, vI 0), (17, vI (l.length : Int)), (16, .sl (l.map eCap)), (5, .ptr 5 0 0)] [(16000, Blk.mk false 5 1 (F.eUs (ByteArray.mk (Array.mk [87, 69, 66, 86, 84, 84, 10, 10])))), (5, Blk.mk true 55 0 [[.ptr 5 0 0, .own 16000]])]) = some (l, ByteArray.mk (Array.mk [87, 69, 66, 86, 84, 84, 10, 10]), 0) := unstLgp l _ 0
    have u2 : unenc encBst ([.ptr 900 0 0], [(901, ⟨false, 5, 1, F.eUs (F.lgA1 l (ByteArray.mk (Array.mk [87, 69, 66, 86, 84, 84, 10, 10])))⟩), (900, ⟨true, 55, 0, [[.ptr 900 0 0, .own 901]]⟩)]) = some (some (F.lgA1 l (ByteArray.mk (Array.mk [87, 69, 66, 86, 84, 84, 10, 10])))) := unBstU _
    have p2 : decide (0 < (F.lgA1 l (ByteArray.mk (Array.mk [87, 69, 66, 86, 84, 84, 10, 10]))).size) = true := decide_eq_true (by show 0 < (F.lgA1 l F.web2).size; omega)
    rw [e0]
    simp only [u1, Option.bind_some, g2, decide_eq_true g1, decide_eq_true (Nat.zero_le l.length), e1, List.drop_zero, Bool.and_self, cond_true, cond_false, u2, p2, Bool.or_true]
    rfl
  · rfl

def stRLi (l : List Cap) (ls : List ByteArray) (k : Nat) (s : ByteArray) (j : Nat) : St := ⟨[(53, vI j), (52, vI ls.length), (51, .sl (ls.map eStr)), (17, vI k), (16, vI l.length), (15, .sl (l.map eCap)), (5, vS s)], []⟩

def stRLi1 (a : (List Cap) × (List ByteArray) × Nat × ByteArray × Nat) : St := stRLi a.1 a.2.1 a.2.2.1 a.2.2.2.1 a.2.2.2.2

theorem stRLi_inj (a a' : (List Cap) × (List ByteArray) × Nat × ByteArray × Nat) (h : stRLi1 a = stRLi1 a') : a = a' := by
  simp only [stRLi1, stRLi] at h
  try simp [strs_inj, ints_inj, bools_inj, eL_eIs_inj, eCaps_inj, eCap_iff, eL_eCaps_inj, eMchs_inj, eMch_iff, eWrds_inj, eWrd_iff, eFnds_inj, eFnd_iff, eRatios_inj, eRatio_iff, eWays_inj, eWay_iff] at h
  grind

theorem unstRLi (l : List Cap) (ls : List ByteArray) (k : Nat) (s : ByteArray) (j : Nat) : unenc stRLi1 (St.mk [(53, (vI (↑j : Int))), (52, (vI (↑(List.length ls) : Int))), (51, AV.sl (List.map eStr ls)), (17, (vI (↑k : Int))), (16, (vI (↑(List.length l) : Int))), (15, AV.sl
  (List.map eCap l)), (5, (vS s))] []) = some (l, ls, k, s, j) := unenc_of stRLi_inj (l, ls, k, s, j) rfl

theorem unstRLi0 (l : List Cap) (ls : List ByteArray) (k : Nat) (s : ByteArray)  : unenc stRLi1 (St.mk [(53, (vI (0 : Int))), (52, (vI (↑(List.length ls) : Int))), (51, AV.sl (List.map eStr ls)), (17, (vI (↑k : Int))), (16, (vI (↑(List.length l) : Int))), (15, AV.sl
  (List.map eCap l)), (5, (vS s))] []) = some (l, ls, k, s, 0) := unenc_of stRLi_inj (l, ls, k, s, 0) rfl

def outRLi (l : List Cap) (ls : List ByteArray) (k : Nat) (s : ByteArray) (j : Nat) : T (Ex × St) := .ret (.exit 2, ⟨[(17, vI k), (16, vI l.length), (15, .sl (l.map eCap)), (5, vS (F.lgW (ls.drop j) s))], []⟩)

noncomputable def prlRLi (l : List Cap) (ls : List ByteArray) (k : Nat) (s : ByteArray) (j : Nat) : Bool := F.allL ls && decide (ls.length ≤ 15) && decide (j ≤ ls.length) && decide (s.size ≤ 100000000)

noncomputable def lpRLi : Nat × (St → T (Ex × St)) := (17, lpo [53, 52, 51, 17, 16, 15, 5] [] stRLi1 (fun a => prlRLi a.1 a.2.1 a.2.2.1 a.2.2.2.1 a.2.2.2.2) fun a => outRLi a.1 a.2.1 a.2.2.1 a.2.2.2.1 a.2.2.2.2)

def stRLw (l : List Cap) (s : ByteArray) (k : Nat) : St := ⟨[(17, vI k), (16, vI l.length), (15, .sl (l.map eCap)), (5, vS s)], []⟩

def stRLw1 (a : (List Cap) × ByteArray × Nat) : St := stRLw a.1 a.2.1 a.2.2

theorem stRLw_inj (a a' : (List Cap) × ByteArray × Nat) (h : stRLw1 a = stRLw1 a') : a = a' := by
  simp only [stRLw1, stRLw] at h
  try simp [strs_inj, ints_inj, bools_inj, eL_eIs_inj, eCaps_inj, eCap_iff, eL_eCaps_inj, eMchs_inj, eMch_iff, eWrds_inj, eWrd_iff, eFnds_inj, eFnd_iff, eRatios_inj, eRatio_iff, eWays_inj, eWay_iff] at h
  grind

theorem unstRLw (l : List Cap) (s : ByteArray) (k : Nat) : unenc stRLw1 (St.mk [(17, (vI (↑k : Int))), (16, (vI (↑(List.length l) : Int))), (15, AV.sl (List.map eCap l)), (5, (vS s))] []) = some (l, s, k) := unenc_of stRLw_inj (l, s, k) rfl

theorem unstRLw0 (l : List Cap)  : unenc stRLw1 (St.mk [(17, (vI (0 : Int))), (16, (vI (↑(List.length l) : Int))), (15, AV.sl (List.map eCap l)), (5, (vS (ByteArray.mk (Array.mk [(87 : UInt8), (69 : UInt8), (66 : UInt8),
  (86 : UInt8), (84 : UInt8), (84 : UInt8), (10 : UInt8), (10 : UInt8)]))))] []) = some (l, ⟨⟨[87, 69, 66, 86, 84, 84, 10, 10]⟩⟩, 0) := unenc_of stRLw_inj (l, ⟨⟨[87, 69, 66, 86, 84, 84, 10, 10]⟩⟩, 0) rfl

def outRLw (l : List Cap) (s : ByteArray) (k : Nat) : T (Ex × St) := .ret (.exit 0, ⟨[(5, vS (F.lgA1 (l.drop k) s))], []⟩)

noncomputable def prlRLw (l : List Cap) (s : ByteArray) (k : Nat) : Bool := l.all F.capW && decide (l.length ≤ 500) && decide (k ≤ l.length) && decide (s.size ≤ 100 + 16000 * k)

noncomputable def lpRLw : Nat × (St → T (Ex × St)) := (6, lpo [17, 16, 15, 5] [] stRLw1 (fun a => prlRLw a.1 a.2.1 a.2.2) fun a => outRLw a.1 a.2.1 a.2.2)

noncomputable def enRLw : Env := envH ty noG lks [oRhC, oIta, oRCk, oRAll] [] [] [lpRLw, lpRLi]

theorem enRLw_ok : EnvOK Tryz.prog enRLw := by
  refine envH_ok lks_ok ty_ok ?_ ?_
  · simp only [List.forall_mem_cons]
    exact ⟨okRhC, okIta, okRCk, okRAll, by simp⟩
  · simp

theorem evRLiL (l : List Cap) (ls : List ByteArray) (k : Nat) (s : ByteArray) (j : Nat) : ((exec enRLw (loopN Tryz.f10 1) (stRLi l ls k s j)).bind (lessX ([53, 52, 51, 17, 16, 15, 5], []) ([17, 16, 15, 5], []) ([], []))).val =
  bif decide ((↑j : Int) < (↑(List.length ls) : Int)) then Option.bind (unenc (List.map eStr) (List.map eStr ls)) fun (z : List ByteArray) => bif decide (j < List.length z)
  then Option.bind (unenc encRAll [(vS (List.getD z j (ByteArray.mk (Array.mk [])))), (vS (ByteArray.mk (Array.mk [(38 : UInt8)]))), (vS (ByteArray.mk (Array.mk [(38 :
  UInt8), (97 : UInt8), (109 : UInt8), (112 : UInt8), (59 : UInt8)])))]) fun (z : ByteArray × ByteArray × ByteArray) => bif decide (ByteArray.size z.fst ≤ (100000 : Nat)) &&
  decide (ByteArray.size z.snd.fst = (1 : Nat)) && decide (ByteArray.size z.snd.snd ≤ (5 : Nat)) && decide (ByteArray.size (F.rpl z.fst z.snd.fst z.snd.snd) ≤ (1000000 :
  Nat)) then Option.bind (unenc encRAll [(vS (F.rpl z.fst z.snd.fst z.snd.snd)), (vS (ByteArray.mk (Array.mk [(60 : UInt8)]))), (vS (ByteArray.mk (Array.mk [(38 : UInt8),
  (108 : UInt8), (116 : UInt8), (59 : UInt8)])))]) fun (z : ByteArray × ByteArray × ByteArray) => bif decide (ByteArray.size z.fst ≤ (100000 : Nat)) && decide
  (ByteArray.size z.snd.fst = (1 : Nat)) && decide (ByteArray.size z.snd.snd ≤ (5 : Nat)) && decide (ByteArray.size (F.rpl z.fst z.snd.fst z.snd.snd) ≤ (1000000 : Nat)) then
  bif Nat.ble (ByteArray.size (F.rpl z.fst z.snd.fst z.snd.snd) + ByteArray.size (ByteArray.mk (Array.mk [(10 : UInt8)]))) (9223372036854775807 : Nat) then bif Nat.ble
  (ByteArray.size s + ByteArray.size (F.rpl z.fst z.snd.fst z.snd.snd ++ ByteArray.mk (Array.mk [(10 : UInt8)]))) (9223372036854775807 : Nat) then some (Ex.normal, St.mk
  [(53, (vI (IntKind.wrap IntKind.i64 ((↑j : Int) + (1 : Int))))), (52, (vI (↑(List.length ls) : Int))), (51, AV.sl (List.map eStr ls)), (17, (vI (↑k : Int))), (16, (vI
  (↑(List.length l) : Int))), (15, AV.sl (List.map eCap l)), (5, (vS (s ++ (F.rpl z.fst z.snd.fst z.snd.snd ++ ByteArray.mk (Array.mk [(10 : UInt8)])))))] []) else none else
  none else none else none else none else some (Ex.exit (2 : Nat), St.mk [(17, (vI (↑k : Int))), (16, (vI (↑(List.length l) : Int))), (15, AV.sl (List.map eCap l)), (5, (vS
  s))] []) := (execR_bind _ _ _).symm.trans (by kernel_rfl)

theorem lpRLi_ok (l : List Cap) (ls : List ByteArray) (k : Nat) (s : ByteArray) (j : Nat) (hp : prlRLi l ls k s j = true) : ∀ ex s', (outRLi l ls k s j).val = some (ex, s') → LoopOK enRLw (loopN Tryz.f10 1) (stRLi l ls k s j) ex s' := by
  simp only [prlRLi, Bool.and_eq_true, decide_eq_true_eq] at hp
  obtain ⟨⟨⟨h1, h2⟩, h3⟩, h4⟩ := hp
  have hw := List.all_eq_true.1 (h1 : ls.all F.line = true)
  have hx : ls.length ≤ 9223372036854775807 := by omega
  refine loop_gen (st := fun b : ByteArray × Nat => stRLi l ls k b.1 b.2) (out := fun b => outRLi l ls k b.1 b.2) (I := fun b => b.2 ≤ ls.length ∧ b.1.size ≤ 100000000 + 1001 * b.2) (n := ([53, 52, 51, 17, 16, 15, 5], [])) (e := ([17, 16, 15, 5], [])) (r := ([], [])) (fun b => ls.length - b.2) ?_ (s, j) ⟨h3, by simp only; omega⟩
  rintro ⟨s, j⟩ ⟨i1, i2⟩
  simp only at i1 i2
  by_cases hlt : j < ls.length
  · have hy : ls[j]? = some ls[j] := List.getElem?_eq_getElem hlt
    generalize ls[j] = y at hy
    have hd := drop_q hy
    have hl := hw y (List.mem_of_getElem? hy)
    have hs := F.line_size hl
    have e1 := (F.esc_size y).2
    have ee : F.rpl (F.rpl y (ByteArray.mk (Array.mk [38])) (ByteArray.mk (Array.mk [38, 97, 109, 112, 59]))) (ByteArray.mk (Array.mk [60])) (ByteArray.mk (Array.mk [38, 108, 116, 59])) = F.esc y := rfl
    have er : (F.rpl y (ByteArray.mk (Array.mk [38])) (ByteArray.mk (Array.mk [38, 97, 109, 112, 59]))).size ≤ 1000 := F.rpl1_size hs
    right
    refine ⟨(s ++ (F.esc y ++ F.nl), j + 1), ?_, rfl, ⟨by simp only; omega, by simp only [ByteArray.size_append, show F.nl.size = 1 from rfl]; omega⟩, by simp only; omega, ?_⟩
    · rw [evRLiL]
      simp only [unRhC, unIta, unRCk, unRAll, preRhC1, preIta1, preRCk1, preRAll1, unstRLw, unstRLi, unstRLw0, unstRLi0, prlRLw, prlRLi, outRLw, outRLi, etaCap, etaMch, etaWrd, etaFnd, etaRatio, etaWay, Option.bind_some, List.length_map, unStrs, unInts, unBools, uneL_eIs, unCaps, uneL_eCaps, unMchs, unWrds, unFnds, unRatios, unWays, F.lt, F.le, cond_true, cond_false, Bool.and_true, Bool.true_and, unWstU, unBstU, F.bldS_some, F.bldLen_some, cast_lt hlt, decide_eq_true hlt, getD_at hy, next_at hlt hx, ee]
      simp only [ByteArray.size_append, show (ByteArray.mk (Array.mk [10])).size = 1 from rfl, show (ByteArray.mk (Array.mk [38])).size = 1 from rfl, show (ByteArray.mk (Array.mk [60])).size = 1 from rfl, show (ByteArray.mk (Array.mk [38, 97, 109, 112, 59])).size = 5 from rfl, show (ByteArray.mk (Array.mk [38, 108, 116, 59])).size = 4 from rfl]
      simp (disch := omega) only [decide_eq_true, ble_t, cond_true, Bool.and_self]
      rfl
    · simp only [outRLi, hd, F.lgW]
  · have hd : ls.drop j = [] := List.drop_eq_nil_of_le (by omega)
    left
    refine ⟨(.exit 2, ⟨[(17, vI k), (16, vI l.length), (15, .sl (l.map eCap)), (5, vS s)], []⟩), ?_, ?_, by simp, rfl⟩
    · rw [evRLiL]
      simp only [unRhC, unIta, unRCk, unRAll, preRhC1, preIta1, preRCk1, preRAll1, unstRLw, unstRLi, unstRLw0, unstRLi0, prlRLw, prlRLi, outRLw, outRLi, etaCap, etaMch, etaWrd, etaFnd, etaRatio, etaWay, Option.bind_some, List.length_map, unStrs, unInts, unBools, uneL_eIs, unCaps, uneL_eCaps, unMchs, unWrds, unFnds, unRatios, unWays, F.lt, F.le, cond_true, cond_false, Bool.and_true, Bool.true_and, unWstU, unBstU, F.bldS_some, F.bldLen_some, decide_eq_false (show ¬ (j : Int) < (ls.length : Int) by omega)]
      try rfl
    · simp only [outRLi, hd, F.lgW]
      rfl

theorem evRLwL (l : List Cap) (s : ByteArray) (k : Nat) : ((exec enRLw (loopN Tryz.f10 0) (stRLw l s k)).bind (lessX ([17, 16, 15, 5], []) ([5], []) ([], []))).val =
  bif decide ((↑k : Int) < (↑(List.length l) : Int)) then Option.bind (unenc (List.map eCap) (List.map eCap l)) fun (z : List Cap) => bif decide (k < List.length z) then
  Option.bind (unenc encRCk [(vI (List.getD z k (Cap.mk (0 : Int) (0 : Int) [] (0 : Int) false false)).fr), (vS (ByteArray.mk (Array.mk [(46 : UInt8)])))]) fun (z_1 : Int ×
  ByteArray) => bif decide ((0 : Int) ≤ z_1.fst) && decide (z_1.fst ≤ (359999999 : Int)) && decide (ByteArray.size z_1.snd = (1 : Nat)) then bif Nat.ble (ByteArray.size
  (F.clk z_1.fst z_1.snd) + ByteArray.size (ByteArray.mk (Array.mk [(32 : UInt8), (45 : UInt8), (45 : UInt8), (62 : UInt8), (32 : UInt8)]))) (9223372036854775807 : Nat) then
  Option.bind (unenc encRCk [(vI (List.getD z k (Cap.mk (0 : Int) (0 : Int) [] (0 : Int) false false)).to), (vS (ByteArray.mk (Array.mk [(46 : UInt8)])))]) fun (z_2 : Int ×
  ByteArray) => bif decide ((0 : Int) ≤ z_2.fst) && decide (z_2.fst ≤ (359999999 : Int)) && decide (ByteArray.size z_2.snd = (1 : Nat)) then bif Nat.ble (ByteArray.size
  (F.clk z_1.fst z_1.snd ++ ByteArray.mk (Array.mk [(32 : UInt8), (45 : UInt8), (45 : UInt8), (62 : UInt8), (32 : UInt8)])) + ByteArray.size (F.clk z_2.fst z_2.snd))
  (9223372036854775807 : Nat) then bif Nat.ble (ByteArray.size s + ByteArray.size (F.clk z_1.fst z_1.snd ++ ByteArray.mk (Array.mk [(32 : UInt8), (45 : UInt8), (45 : UInt8),
  (62 : UInt8), (32 : UInt8)]) ++ F.clk z_2.fst z_2.snd)) (9223372036854775807 : Nat) then bif (List.getD z k (Cap.mk (0 : Int) (0 : Int) [] (0 : Int) false false)).row !=
  (0 : Int) then Option.bind (unenc encIta [(vI (List.getD z k (Cap.mk (0 : Int) (0 : Int) [] (0 : Int) false false)).row)]) fun (z_3 : Int) => bif decide
  ((-9223372036854775808 : Int) ≤ z_3) && decide (z_3 ≤ (9223372036854775807 : Int)) then bif Nat.ble (ByteArray.size (ByteArray.mk (Array.mk [(32 : UInt8), (108 : UInt8),
  (105 : UInt8), (110 : UInt8), (101 : UInt8), (58 : UInt8)])) + ByteArray.size (F.itoa z_3)) (9223372036854775807 : Nat) then bif Nat.ble (ByteArray.size (s ++ (F.clk
  z_1.fst z_1.snd ++ ByteArray.mk (Array.mk [(32 : UInt8), (45 : UInt8), (45 : UInt8), (62 : UInt8), (32 : UInt8)]) ++ F.clk z_2.fst z_2.snd)) + ByteArray.size (ByteArray.mk
  (Array.mk [(32 : UInt8), (108 : UInt8), (105 : UInt8), (110 : UInt8), (101 : UInt8), (58 : UInt8)]) ++ F.itoa z_3)) (9223372036854775807 : Nat) then bif (List.getD z k
  (Cap.mk (0 : Int) (0 : Int) [] (0 : Int) false false)).bef then bif Nat.ble (ByteArray.size (s ++ (F.clk z_1.fst z_1.snd ++ ByteArray.mk (Array.mk [(32 : UInt8), (45 :
  UInt8), (45 : UInt8), (62 : UInt8), (32 : UInt8)]) ++ F.clk z_2.fst z_2.snd) ++ (ByteArray.mk (Array.mk [(32 : UInt8), (108 : UInt8), (105 : UInt8), (110 : UInt8), (101 :
  UInt8), (58 : UInt8)]) ++ F.itoa z_3)) + ByteArray.size (ByteArray.mk (Array.mk [(32 : UInt8), (98 : UInt8), (101 : UInt8), (102 : UInt8), (111 : UInt8), (114 : UInt8),
  (101 : UInt8)]))) (9223372036854775807 : Nat) then bif (List.getD z k (Cap.mk (0 : Int) (0 : Int) [] (0 : Int) false false)).aft then bif Nat.ble (ByteArray.size (s ++
  (F.clk z_1.fst z_1.snd ++ ByteArray.mk (Array.mk [(32 : UInt8), (45 : UInt8), (45 : UInt8), (62 : UInt8), (32 : UInt8)]) ++ F.clk z_2.fst z_2.snd) ++ (ByteArray.mk
  (Array.mk [(32 : UInt8), (108 : UInt8), (105 : UInt8), (110 : UInt8), (101 : UInt8), (58 : UInt8)]) ++ F.itoa z_3) ++ ByteArray.mk (Array.mk [(32 : UInt8), (98 : UInt8),
  (101 : UInt8), (102 : UInt8), (111 : UInt8), (114 : UInt8), (101 : UInt8)])) + ByteArray.size (ByteArray.mk (Array.mk [(32 : UInt8), (97 : UInt8), (102 : UInt8), (116 :
  UInt8), (101 : UInt8), (114 : UInt8)]))) (9223372036854775807 : Nat) then bif Nat.ble (ByteArray.size (s ++ (F.clk z_1.fst z_1.snd ++ ByteArray.mk (Array.mk [(32 : UInt8),
  (45 : UInt8), (45 : UInt8), (62 : UInt8), (32 : UInt8)]) ++ F.clk z_2.fst z_2.snd) ++ (ByteArray.mk (Array.mk [(32 : UInt8), (108 : UInt8), (105 : UInt8), (110 : UInt8),
  (101 : UInt8), (58 : UInt8)]) ++ F.itoa z_3) ++ ByteArray.mk (Array.mk [(32 : UInt8), (98 : UInt8), (101 : UInt8), (102 : UInt8), (111 : UInt8), (114 : UInt8), (101 :
  UInt8)]) ++ ByteArray.mk (Array.mk [(32 : UInt8), (97 : UInt8), (102 : UInt8), (116 : UInt8), (101 : UInt8), (114 : UInt8)])) + ByteArray.size (ByteArray.mk (Array.mk [(10
  : UInt8)]))) (9223372036854775807 : Nat) then Option.bind (unenc stRLi1 (St.mk [(53, (vI (0 : Int))), (52, (vI (↑(List.length (List.map eStr (List.getD z k (Cap.mk (0 :
  Int) (0 : Int) [] (0 : Int) false false)).lines)) : Int))), (51, AV.sl (List.map eStr (List.getD z k (Cap.mk (0 : Int) (0 : Int) [] (0 : Int) false false)).lines)), (17,
  (vI (↑k : Int))), (16, (vI (↑(List.length l) : Int))), (15, AV.sl (List.map eCap l)), (5, (vS (s ++ (F.clk z_1.fst z_1.snd ++ ByteArray.mk (Array.mk [(32 : UInt8), (45 :
  UInt8), (45 : UInt8), (62 : UInt8), (32 : UInt8)]) ++ F.clk z_2.fst z_2.snd) ++ (ByteArray.mk (Array.mk [(32 : UInt8), (108 : UInt8), (105 : UInt8), (110 : UInt8), (101 :
  UInt8), (58 : UInt8)]) ++ F.itoa z_3) ++ ByteArray.mk (Array.mk [(32 : UInt8), (98 : UInt8), (101 : UInt8), (102 : UInt8), (111 : UInt8), (114 : UInt8), (101 : UInt8)]) ++
  ByteArray.mk (Array.mk [(32 : UInt8), (97 : UInt8), (102 : UInt8), (116 : UInt8), (101 : UInt8), (114 : UInt8)]) ++ ByteArray.mk (Array.mk [(10 : UInt8)]))))] [])) fun (z
  : List Cap × List ByteArray × Nat × ByteArray × Nat) => bif F.allL z.snd.fst && decide (List.length z.snd.fst ≤ (15 : Nat)) && decide (z.snd.snd.snd.snd ≤ List.length
  z.snd.fst) && decide (ByteArray.size z.snd.snd.snd.fst ≤ (100000000 : Nat)) && true then bif Nat.ble (ByteArray.size (F.lgW (List.drop z.snd.snd.snd.snd z.snd.fst)
  z.snd.snd.snd.fst) + ByteArray.size (ByteArray.mk (Array.mk [(10 : UInt8)]))) (9223372036854775807 : Nat) then some (Ex.normal, St.mk [(17, (vI (IntKind.wrap IntKind.i64
  ((↑z.snd.snd.fst : Int) + (1 : Int))))), (16, (vI (↑(List.length z.fst) : Int))), (15, AV.sl (List.map eCap z.fst)), (5, (vS (F.lgW (List.drop z.snd.snd.snd.snd z.snd.fst)
  z.snd.snd.snd.fst ++ ByteArray.mk (Array.mk [(10 : UInt8)]))))] []) else none else none else none else none else bif Nat.ble (ByteArray.size (s ++ (F.clk z_1.fst z_1.snd
  ++ ByteArray.mk (Array.mk [(32 : UInt8), (45 : UInt8), (45 : UInt8), (62 : UInt8), (32 : UInt8)]) ++ F.clk z_2.fst z_2.snd) ++ (ByteArray.mk (Array.mk [(32 : UInt8), (108
  : UInt8), (105 : UInt8), (110 : UInt8), (101 : UInt8), (58 : UInt8)]) ++ F.itoa z_3) ++ ByteArray.mk (Array.mk [(32 : UInt8), (98 : UInt8), (101 : UInt8), (102 : UInt8),
  (111 : UInt8), (114 : UInt8), (101 : UInt8)])) + ByteArray.size (ByteArray.mk (Array.mk [(10 : UInt8)]))) (9223372036854775807 : Nat) then Option.bind (unenc stRLi1 (St.mk
  [(53, (vI (0 : Int))), (52, (vI (↑(List.length (List.map eStr (List.getD z k (Cap.mk (0 : Int) (0 : Int) [] (0 : Int) false false)).lines)) : Int))), (51, AV.sl (List.map
  eStr (List.getD z k (Cap.mk (0 : Int) (0 : Int) [] (0 : Int) false false)).lines)), (17, (vI (↑k : Int))), (16, (vI (↑(List.length l) : Int))), (15, AV.sl (List.map eCap
  l)), (5, (vS (s ++ (F.clk z_1.fst z_1.snd ++ ByteArray.mk (Array.mk [(32 : UInt8), (45 : UInt8), (45 : UInt8), (62 : UInt8), (32 : UInt8)]) ++ F.clk z_2.fst z_2.snd) ++
  (ByteArray.mk (Array.mk [(32 : UInt8), (108 : UInt8), (105 : UInt8), (110 : UInt8), (101 : UInt8), (58 : UInt8)]) ++ F.itoa z_3) ++ ByteArray.mk (Array.mk [(32 : UInt8),
  (98 : UInt8), (101 : UInt8), (102 : UInt8), (111 : UInt8), (114 : UInt8), (101 : UInt8)]) ++ ByteArray.mk (Array.mk [(10 : UInt8)]))))] [])) fun (z : List Cap × List
  ByteArray × Nat × ByteArray × Nat) => bif F.allL z.snd.fst && decide (List.length z.snd.fst ≤ (15 : Nat)) && decide (z.snd.snd.snd.snd ≤ List.length z.snd.fst) && decide
  (ByteArray.size z.snd.snd.snd.fst ≤ (100000000 : Nat)) && true then bif Nat.ble (ByteArray.size (F.lgW (List.drop z.snd.snd.snd.snd z.snd.fst) z.snd.snd.snd.fst) +
  ByteArray.size (ByteArray.mk (Array.mk [(10 : UInt8)]))) (9223372036854775807 : Nat) then some (Ex.normal, St.mk [(17, (vI (IntKind.wrap IntKind.i64 ((↑z.snd.snd.fst :
  Int) + (1 : Int))))), (16, (vI (↑(List.length z.fst) : Int))), (15, AV.sl (List.map eCap z.fst)), (5, (vS (F.lgW (List.drop z.snd.snd.snd.snd z.snd.fst) z.snd.snd.snd.fst
  ++ ByteArray.mk (Array.mk [(10 : UInt8)]))))] []) else none else none else none else none else bif (List.getD z k (Cap.mk (0 : Int) (0 : Int) [] (0 : Int) false
  false)).aft then bif Nat.ble (ByteArray.size (s ++ (F.clk z_1.fst z_1.snd ++ ByteArray.mk (Array.mk [(32 : UInt8), (45 : UInt8), (45 : UInt8), (62 : UInt8), (32 : UInt8)])
  ++ F.clk z_2.fst z_2.snd) ++ (ByteArray.mk (Array.mk [(32 : UInt8), (108 : UInt8), (105 : UInt8), (110 : UInt8), (101 : UInt8), (58 : UInt8)]) ++ F.itoa z_3)) +
  ByteArray.size (ByteArray.mk (Array.mk [(32 : UInt8), (97 : UInt8), (102 : UInt8), (116 : UInt8), (101 : UInt8), (114 : UInt8)]))) (9223372036854775807 : Nat) then bif
  Nat.ble (ByteArray.size (s ++ (F.clk z_1.fst z_1.snd ++ ByteArray.mk (Array.mk [(32 : UInt8), (45 : UInt8), (45 : UInt8), (62 : UInt8), (32 : UInt8)]) ++ F.clk z_2.fst
  z_2.snd) ++ (ByteArray.mk (Array.mk [(32 : UInt8), (108 : UInt8), (105 : UInt8), (110 : UInt8), (101 : UInt8), (58 : UInt8)]) ++ F.itoa z_3) ++ ByteArray.mk (Array.mk [(32
  : UInt8), (97 : UInt8), (102 : UInt8), (116 : UInt8), (101 : UInt8), (114 : UInt8)])) + ByteArray.size (ByteArray.mk (Array.mk [(10 : UInt8)]))) (9223372036854775807 :
  Nat) then Option.bind (unenc stRLi1 (St.mk [(53, (vI (0 : Int))), (52, (vI (↑(List.length (List.map eStr (List.getD z k (Cap.mk (0 : Int) (0 : Int) [] (0 : Int) false
  false)).lines)) : Int))), (51, AV.sl (List.map eStr (List.getD z k (Cap.mk (0 : Int) (0 : Int) [] (0 : Int) false false)).lines)), (17, (vI (↑k : Int))), (16, (vI
  (↑(List.length l) : Int))), (15, AV.sl (List.map eCap l)), (5, (vS (s ++ (F.clk z_1.fst z_1.snd ++ ByteArray.mk (Array.mk [(32 : UInt8), (45 : UInt8), (45 : UInt8), (62 :
  UInt8), (32 : UInt8)]) ++ F.clk z_2.fst z_2.snd) ++ (ByteArray.mk (Array.mk [(32 : UInt8), (108 : UInt8), (105 : UInt8), (110 : UInt8), (101 : UInt8), (58 : UInt8)]) ++
  F.itoa z_3) ++ ByteArray.mk (Array.mk [(32 : UInt8), (97 : UInt8), (102 : UInt8), (116 : UInt8), (101 : UInt8), (114 : UInt8)]) ++ ByteArray.mk (Array.mk [(10 :
  UInt8)]))))] [])) fun (z : List Cap × List ByteArray × Nat × ByteArray × Nat) => bif F.allL z.snd.fst && decide (List.length z.snd.fst ≤ (15 : Nat)) && decide
  (z.snd.snd.snd.snd ≤ List.length z.snd.fst) && decide (ByteArray.size z.snd.snd.snd.fst ≤ (100000000 : Nat)) && true then bif Nat.ble (ByteArray.size (F.lgW (List.drop
  z.snd.snd.snd.snd z.snd.fst) z.snd.snd.snd.fst) + ByteArray.size (ByteArray.mk (Array.mk [(10 : UInt8)]))) (9223372036854775807 : Nat) then some (Ex.normal, St.mk [(17,
  (vI (IntKind.wrap IntKind.i64 ((↑z.snd.snd.fst : Int) + (1 : Int))))), (16, (vI (↑(List.length z.fst) : Int))), (15, AV.sl (List.map eCap z.fst)), (5, (vS (F.lgW
  (List.drop z.snd.snd.snd.snd z.snd.fst) z.snd.snd.snd.fst ++ ByteArray.mk (Array.mk [(10 : UInt8)]))))] []) else none else none else none else none else bif Nat.ble
  (ByteArray.size (s ++ (F.clk z_1.fst z_1.snd ++ ByteArray.mk (Array.mk [(32 : UInt8), (45 : UInt8), (45 : UInt8), (62 : UInt8), (32 : UInt8)]) ++ F.clk z_2.fst z_2.snd) ++
  (ByteArray.mk (Array.mk [(32 : UInt8), (108 : UInt8), (105 : UInt8), (110 : UInt8), (101 : UInt8), (58 : UInt8)]) ++ F.itoa z_3)) + ByteArray.size (ByteArray.mk (Array.mk
  [(10 : UInt8)]))) (9223372036854775807 : Nat) then Option.bind (unenc stRLi1 (St.mk [(53, (vI (0 : Int))), (52, (vI (↑(List.length (List.map eStr (List.getD z k (Cap.mk (0
  : Int) (0 : Int) [] (0 : Int) false false)).lines)) : Int))), (51, AV.sl (List.map eStr (List.getD z k (Cap.mk (0 : Int) (0 : Int) [] (0 : Int) false false)).lines)), (17,
  (vI (↑k : Int))), (16, (vI (↑(List.length l) : Int))), (15, AV.sl (List.map eCap l)), (5, (vS (s ++ (F.clk z_1.fst z_1.snd ++ ByteArray.mk (Array.mk [(32 : UInt8), (45 :
  UInt8), (45 : UInt8), (62 : UInt8), (32 : UInt8)]) ++ F.clk z_2.fst z_2.snd) ++ (ByteArray.mk (Array.mk [(32 : UInt8), (108 : UInt8), (105 : UInt8), (110 : UInt8), (101 :
  UInt8), (58 : UInt8)]) ++ F.itoa z_3) ++ ByteArray.mk (Array.mk [(10 : UInt8)]))))] [])) fun (z : List Cap × List ByteArray × Nat × ByteArray × Nat) => bif F.allL
  z.snd.fst && decide (List.length z.snd.fst ≤ (15 : Nat)) && decide (z.snd.snd.snd.snd ≤ List.length z.snd.fst) && decide (ByteArray.size z.snd.snd.snd.fst ≤ (100000000 :
  Nat)) && true then bif Nat.ble (ByteArray.size (F.lgW (List.drop z.snd.snd.snd.snd z.snd.fst) z.snd.snd.snd.fst) + ByteArray.size (ByteArray.mk (Array.mk [(10 : UInt8)])))
  (9223372036854775807 : Nat) then some (Ex.normal, St.mk [(17, (vI (IntKind.wrap IntKind.i64 ((↑z.snd.snd.fst : Int) + (1 : Int))))), (16, (vI (↑(List.length z.fst) :
  Int))), (15, AV.sl (List.map eCap z.fst)), (5, (vS (F.lgW (List.drop z.snd.snd.snd.snd z.snd.fst) z.snd.snd.snd.fst ++ ByteArray.mk (Array.mk [(10 : UInt8)]))))] []) else
  none else none else none else none else none else none else bif (List.getD z k (Cap.mk (0 : Int) (0 : Int) [] (0 : Int) false false)).bef then bif Nat.ble (ByteArray.size
  (s ++ (F.clk z_1.fst z_1.snd ++ ByteArray.mk (Array.mk [(32 : UInt8), (45 : UInt8), (45 : UInt8), (62 : UInt8), (32 : UInt8)]) ++ F.clk z_2.fst z_2.snd)) + ByteArray.size
  (ByteArray.mk (Array.mk [(32 : UInt8), (98 : UInt8), (101 : UInt8), (102 : UInt8), (111 : UInt8), (114 : UInt8), (101 : UInt8)]))) (9223372036854775807 : Nat) then bif
  (List.getD z k (Cap.mk (0 : Int) (0 : Int) [] (0 : Int) false false)).aft then bif Nat.ble (ByteArray.size (s ++ (F.clk z_1.fst z_1.snd ++ ByteArray.mk (Array.mk [(32 :
  UInt8), (45 : UInt8), (45 : UInt8), (62 : UInt8), (32 : UInt8)]) ++ F.clk z_2.fst z_2.snd) ++ ByteArray.mk (Array.mk [(32 : UInt8), (98 : UInt8), (101 : UInt8), (102 :
  UInt8), (111 : UInt8), (114 : UInt8), (101 : UInt8)])) + ByteArray.size (ByteArray.mk (Array.mk [(32 : UInt8), (97 : UInt8), (102 : UInt8), (116 : UInt8), (101 : UInt8),
  (114 : UInt8)]))) (9223372036854775807 : Nat) then bif Nat.ble (ByteArray.size (s ++ (F.clk z_1.fst z_1.snd ++ ByteArray.mk (Array.mk [(32 : UInt8), (45 : UInt8), (45 :
  UInt8), (62 : UInt8), (32 : UInt8)]) ++ F.clk z_2.fst z_2.snd) ++ ByteArray.mk (Array.mk [(32 : UInt8), (98 : UInt8), (101 : UInt8), (102 : UInt8), (111 : UInt8), (114 :
  UInt8), (101 : UInt8)]) ++ ByteArray.mk (Array.mk [(32 : UInt8), (97 : UInt8), (102 : UInt8), (116 : UInt8), (101 : UInt8), (114 : UInt8)])) + ByteArray.size (ByteArray.mk
  (Array.mk [(10 : UInt8)]))) (9223372036854775807 : Nat) then Option.bind (unenc stRLi1 (St.mk [(53, (vI (0 : Int))), (52, (vI (↑(List.length (List.map eStr (List.getD z k
  (Cap.mk (0 : Int) (0 : Int) [] (0 : Int) false false)).lines)) : Int))), (51, AV.sl (List.map eStr (List.getD z k (Cap.mk (0 : Int) (0 : Int) [] (0 : Int) false
  false)).lines)), (17, (vI (↑k : Int))), (16, (vI (↑(List.length l) : Int))), (15, AV.sl (List.map eCap l)), (5, (vS (s ++ (F.clk z_1.fst z_1.snd ++ ByteArray.mk (Array.mk
  [(32 : UInt8), (45 : UInt8), (45 : UInt8), (62 : UInt8), (32 : UInt8)]) ++ F.clk z_2.fst z_2.snd) ++ ByteArray.mk (Array.mk [(32 : UInt8), (98 : UInt8), (101 : UInt8),
  (102 : UInt8), (111 : UInt8), (114 : UInt8), (101 : UInt8)]) ++ ByteArray.mk (Array.mk [(32 : UInt8), (97 : UInt8), (102 : UInt8), (116 : UInt8), (101 : UInt8), (114 :
  UInt8)]) ++ ByteArray.mk (Array.mk [(10 : UInt8)]))))] [])) fun (z : List Cap × List ByteArray × Nat × ByteArray × Nat) => bif F.allL z.snd.fst && decide (List.length
  z.snd.fst ≤ (15 : Nat)) && decide (z.snd.snd.snd.snd ≤ List.length z.snd.fst) && decide (ByteArray.size z.snd.snd.snd.fst ≤ (100000000 : Nat)) && true then bif Nat.ble
  (ByteArray.size (F.lgW (List.drop z.snd.snd.snd.snd z.snd.fst) z.snd.snd.snd.fst) + ByteArray.size (ByteArray.mk (Array.mk [(10 : UInt8)]))) (9223372036854775807 : Nat)
  then some (Ex.normal, St.mk [(17, (vI (IntKind.wrap IntKind.i64 ((↑z.snd.snd.fst : Int) + (1 : Int))))), (16, (vI (↑(List.length z.fst) : Int))), (15, AV.sl (List.map eCap
  z.fst)), (5, (vS (F.lgW (List.drop z.snd.snd.snd.snd z.snd.fst) z.snd.snd.snd.fst ++ ByteArray.mk (Array.mk [(10 : UInt8)]))))] []) else none else none else none else none
  else bif Nat.ble (ByteArray.size (s ++ (F.clk z_1.fst z_1.snd ++ ByteArray.mk (Array.mk [(32 : UInt8), (45 : UInt8), (45 : UInt8), (62 : UInt8), (32 : UInt8)]) ++ F.clk
  z_2.fst z_2.snd) ++ ByteArray.mk (Array.mk [(32 : UInt8), (98 : UInt8), (101 : UInt8), (102 : UInt8), (111 : UInt8), (114 : UInt8), (101 : UInt8)])) + ByteArray.size
  (ByteArray.mk (Array.mk [(10 : UInt8)]))) (9223372036854775807 : Nat) then Option.bind (unenc stRLi1 (St.mk [(53, (vI (0 : Int))), (52, (vI (↑(List.length (List.map eStr
  (List.getD z k (Cap.mk (0 : Int) (0 : Int) [] (0 : Int) false false)).lines)) : Int))), (51, AV.sl (List.map eStr (List.getD z k (Cap.mk (0 : Int) (0 : Int) [] (0 : Int)
  false false)).lines)), (17, (vI (↑k : Int))), (16, (vI (↑(List.length l) : Int))), (15, AV.sl (List.map eCap l)), (5, (vS (s ++ (F.clk z_1.fst z_1.snd ++ ByteArray.mk
  (Array.mk [(32 : UInt8), (45 : UInt8), (45 : UInt8), (62 : UInt8), (32 : UInt8)]) ++ F.clk z_2.fst z_2.snd) ++ ByteArray.mk (Array.mk [(32 : UInt8), (98 : UInt8), (101 :
  UInt8), (102 : UInt8), (111 : UInt8), (114 : UInt8), (101 : UInt8)]) ++ ByteArray.mk (Array.mk [(10 : UInt8)]))))] [])) fun (z : List Cap × List ByteArray × Nat ×
  ByteArray × Nat) => bif F.allL z.snd.fst && decide (List.length z.snd.fst ≤ (15 : Nat)) && decide (z.snd.snd.snd.snd ≤ List.length z.snd.fst) && decide (ByteArray.size
  z.snd.snd.snd.fst ≤ (100000000 : Nat)) && true then bif Nat.ble (ByteArray.size (F.lgW (List.drop z.snd.snd.snd.snd z.snd.fst) z.snd.snd.snd.fst) + ByteArray.size
  (ByteArray.mk (Array.mk [(10 : UInt8)]))) (9223372036854775807 : Nat) then some (Ex.normal, St.mk [(17, (vI (IntKind.wrap IntKind.i64 ((↑z.snd.snd.fst : Int) + (1 :
  Int))))), (16, (vI (↑(List.length z.fst) : Int))), (15, AV.sl (List.map eCap z.fst)), (5, (vS (F.lgW (List.drop z.snd.snd.snd.snd z.snd.fst) z.snd.snd.snd.fst ++
  ByteArray.mk (Array.mk [(10 : UInt8)]))))] []) else none else none else none else none else bif (List.getD z k (Cap.mk (0 : Int) (0 : Int) [] (0 : Int) false false)).aft
  then bif Nat.ble (ByteArray.size (s ++ (F.clk z_1.fst z_1.snd ++ ByteArray.mk (Array.mk [(32 : UInt8), (45 : UInt8), (45 : UInt8), (62 : UInt8), (32 : UInt8)]) ++ F.clk
  z_2.fst z_2.snd)) + ByteArray.size (ByteArray.mk (Array.mk [(32 : UInt8), (97 : UInt8), (102 : UInt8), (116 : UInt8), (101 : UInt8), (114 : UInt8)]))) (9223372036854775807
  : Nat) then bif Nat.ble (ByteArray.size (s ++ (F.clk z_1.fst z_1.snd ++ ByteArray.mk (Array.mk [(32 : UInt8), (45 : UInt8), (45 : UInt8), (62 : UInt8), (32 : UInt8)]) ++
  F.clk z_2.fst z_2.snd) ++ ByteArray.mk (Array.mk [(32 : UInt8), (97 : UInt8), (102 : UInt8), (116 : UInt8), (101 : UInt8), (114 : UInt8)])) + ByteArray.size (ByteArray.mk
  (Array.mk [(10 : UInt8)]))) (9223372036854775807 : Nat) then Option.bind (unenc stRLi1 (St.mk [(53, (vI (0 : Int))), (52, (vI (↑(List.length (List.map eStr (List.getD z k
  (Cap.mk (0 : Int) (0 : Int) [] (0 : Int) false false)).lines)) : Int))), (51, AV.sl (List.map eStr (List.getD z k (Cap.mk (0 : Int) (0 : Int) [] (0 : Int) false
  false)).lines)), (17, (vI (↑k : Int))), (16, (vI (↑(List.length l) : Int))), (15, AV.sl (List.map eCap l)), (5, (vS (s ++ (F.clk z_1.fst z_1.snd ++ ByteArray.mk (Array.mk
  [(32 : UInt8), (45 : UInt8), (45 : UInt8), (62 : UInt8), (32 : UInt8)]) ++ F.clk z_2.fst z_2.snd) ++ ByteArray.mk (Array.mk [(32 : UInt8), (97 : UInt8), (102 : UInt8),
  (116 : UInt8), (101 : UInt8), (114 : UInt8)]) ++ ByteArray.mk (Array.mk [(10 : UInt8)]))))] [])) fun (z : List Cap × List ByteArray × Nat × ByteArray × Nat) => bif F.allL
  z.snd.fst && decide (List.length z.snd.fst ≤ (15 : Nat)) && decide (z.snd.snd.snd.snd ≤ List.length z.snd.fst) && decide (ByteArray.size z.snd.snd.snd.fst ≤ (100000000 :
  Nat)) && true then bif Nat.ble (ByteArray.size (F.lgW (List.drop z.snd.snd.snd.snd z.snd.fst) z.snd.snd.snd.fst) + ByteArray.size (ByteArray.mk (Array.mk [(10 : UInt8)])))
  (9223372036854775807 : Nat) then some (Ex.normal, St.mk [(17, (vI (IntKind.wrap IntKind.i64 ((↑z.snd.snd.fst : Int) + (1 : Int))))), (16, (vI (↑(List.length z.fst) :
  Int))), (15, AV.sl (List.map eCap z.fst)), (5, (vS (F.lgW (List.drop z.snd.snd.snd.snd z.snd.fst) z.snd.snd.snd.fst ++ ByteArray.mk (Array.mk [(10 : UInt8)]))))] []) else
  none else none else none else none else bif Nat.ble (ByteArray.size (s ++ (F.clk z_1.fst z_1.snd ++ ByteArray.mk (Array.mk [(32 : UInt8), (45 : UInt8), (45 : UInt8), (62 :
  UInt8), (32 : UInt8)]) ++ F.clk z_2.fst z_2.snd)) + ByteArray.size (ByteArray.mk (Array.mk [(10 : UInt8)]))) (9223372036854775807 : Nat) then Option.bind (unenc stRLi1
  (St.mk [(53, (vI (0 : Int))), (52, (vI (↑(List.length (List.map eStr (List.getD z k (Cap.mk (0 : Int) (0 : Int) [] (0 : Int) false false)).lines)) : Int))), (51, AV.sl
  (List.map eStr (List.getD z k (Cap.mk (0 : Int) (0 : Int) [] (0 : Int) false false)).lines)), (17, (vI (↑k : Int))), (16, (vI (↑(List.length l) : Int))), (15, AV.sl
  (List.map eCap l)), (5, (vS (s ++ (F.clk z_1.fst z_1.snd ++ ByteArray.mk (Array.mk [(32 : UInt8), (45 : UInt8), (45 : UInt8), (62 : UInt8), (32 : UInt8)]) ++ F.clk z_2.fst
  z_2.snd) ++ ByteArray.mk (Array.mk [(10 : UInt8)]))))] [])) fun (z : List Cap × List ByteArray × Nat × ByteArray × Nat) => bif F.allL z.snd.fst && decide (List.length
  z.snd.fst ≤ (15 : Nat)) && decide (z.snd.snd.snd.snd ≤ List.length z.snd.fst) && decide (ByteArray.size z.snd.snd.snd.fst ≤ (100000000 : Nat)) && true then bif Nat.ble
  (ByteArray.size (F.lgW (List.drop z.snd.snd.snd.snd z.snd.fst) z.snd.snd.snd.fst) + ByteArray.size (ByteArray.mk (Array.mk [(10 : UInt8)]))) (9223372036854775807 : Nat)
  then some (Ex.normal, St.mk [(17, (vI (IntKind.wrap IntKind.i64 ((↑z.snd.snd.fst : Int) + (1 : Int))))), (16, (vI (↑(List.length z.fst) : Int))), (15, AV.sl (List.map eCap
  z.fst)), (5, (vS (F.lgW (List.drop z.snd.snd.snd.snd z.snd.fst) z.snd.snd.snd.fst ++ ByteArray.mk (Array.mk [(10 : UInt8)]))))] []) else none else none else none else none
  else none else none else none else none else none else some (Ex.exit (0 : Nat), St.mk [(5, (vS s))] []) := (execR_bind _ _ _).symm.trans (by kernel_rfl)

theorem lpRLw_ok (l : List Cap) (s : ByteArray) (k : Nat) (hp : prlRLw l s k = true) : ∀ ex s', (outRLw l s k).val = some (ex, s') → LoopOK enRLw (loopN Tryz.f10 0) (stRLw l s k) ex s' := by
  simp only [prlRLw, Bool.and_eq_true, decide_eq_true_eq] at hp
  obtain ⟨⟨⟨h1, h2⟩, h3⟩, h4⟩ := hp
  have hw := List.all_eq_true.1 (h1 : l.all F.capW = true)
  have hx : l.length ≤ 9223372036854775807 := by omega
  refine loop_gen (st := fun b : ByteArray × Nat => stRLw l b.1 b.2) (out := fun b => outRLw l b.1 b.2) (I := fun b => b.2 ≤ l.length ∧ b.1.size ≤ 100 + 16000 * b.2) (n := ([17, 16, 15, 5], [])) (e := ([5], [])) (r := ([], [])) (fun b => l.length - b.2) ?_ (s, k) ⟨h3, h4⟩
  rintro ⟨s, k⟩ ⟨i1, i2⟩
  simp only at i1 i2
  by_cases hlt : k < l.length
  · have hy : l[k]? = some l[k] := List.getElem?_eq_getElem hlt
    generalize l[k] = y at hy
    have hd := drop_q hy
    have hc := hw y (List.mem_of_getElem? hy)
    obtain ⟨c1, c2, c3, c4, c5, c6, c7, c8, c9⟩ := F.capW_spec hc
    have hall : F.allL y.lines = true := List.all_eq_true.2 c9
    have z1 := F.itoa_size (n := y.row) (by omega) (by omega)
    have hT : F.clk y.fr (ByteArray.mk (Array.mk [46])) ++ ByteArray.mk (Array.mk [32, 45, 45, 62, 32]) ++ F.clk y.to (ByteArray.mk (Array.mk [46])) = F.tms y F.dot := rfl
    have za : (F.clk y.fr (ByteArray.mk (Array.mk [46]))).size = 12 := by
      obtain ⟨j, hj⟩ := Int.eq_ofNat_of_zero_le c1
      rw [hj, F.clk_size (by omega)]; rfl
    have zb : (F.clk y.to (ByteArray.mk (Array.mk [46]))).size = 12 := by
      obtain ⟨j, hj⟩ := Int.eq_ofNat_of_zero_le c3
      rw [hj, F.clk_size (by omega)]; rfl
    have z2 := F.tms_size hc (show F.dot.size = 1 from rfl)
    have z3 : (ByteArray.mk (Array.mk [46])).size = 1 := rfl
    have z4 : (ByteArray.mk (Array.mk [10])).size = 1 := rfl
    have z5 : (ByteArray.mk (Array.mk [32, 108, 105, 110, 101, 58])).size = 6 := rfl
    have z6 : (ByteArray.mk (Array.mk [32, 98, 101, 102, 111, 114, 101])).size = 7 := rfl
    have z7 : (ByteArray.mk (Array.mk [32, 97, 102, 116, 101, 114])).size = 6 := rfl
    have z8 : (ByteArray.mk (Array.mk [32, 45, 45, 62, 32])).size = 5 := rfl
    have y1 := F.lgC_size s hc
    have y2 := F.lgH_size s hc
    have y3 := F.lgW_size y.lines (F.lgH y s) fun x hx => F.line_size (c9 x hx)
    right
    refine ⟨(F.lgC y s, k + 1), ?_, rfl, ⟨by simp only; omega, by simp only; omega⟩, by simp only; omega, ?_⟩
    · rw [evRLwL]
      cases ha : y.aft <;> cases hb : y.bef <;> cases hr : (y.row != 0)
      all_goals
        have hH : F.lgH y s = F.lgH y s := rfl
        conv at hH => lhs; unfold F.lgH
        simp only [ha, hb, hr, cond_true, cond_false, F.dot, F.nl, F.lineB, F.befB, F.aftB] at hH
        simp only [unRhC, unIta, unRCk, unRAll, preRhC1, preIta1, preRCk1, preRAll1, unstRLw, unstRLi, unstRLw0, unstRLi0, prlRLw, prlRLi, outRLw, outRLi, etaCap, etaMch, etaWrd, etaFnd, etaRatio, etaWay, Option.bind_some, List.length_map, unStrs, unInts, unBools, uneL_eIs, unCaps, uneL_eCaps, unMchs, unWrds, unFnds, unRatios, unWays, F.lt, F.le, cond_true, cond_false, Bool.and_true, Bool.true_and, unWstU, unBstU, F.bldS_some, F.bldLen_some, cast_lt hlt, decide_eq_true hlt, getD_at hy, next_at hlt hx, ha, hb, hr, decide_eq_true c1, decide_eq_true c2, decide_eq_true c3, decide_eq_true c4, z3, decide_true, hall, List.drop_zero, hT]
        simp only [F.dot] at z2
        simp only [F.dot, hH]
        simp only [ByteArray.size_append, z2, z4, z5, z6, z7, z8, za, zb]
        simp (disch := omega) only [decide_eq_true, ble_t, cond_true, Bool.and_self]
        rfl
    · simp only [outRLw, hd, F.lgA1]
  · have hd : l.drop k = [] := List.drop_eq_nil_of_le (by omega)
    left
    refine ⟨(.exit 0, ⟨[(5, vS s)], []⟩), ?_, ?_, by simp, rfl⟩
    · rw [evRLwL]
      simp only [unRhC, unIta, unRCk, unRAll, preRhC1, preIta1, preRCk1, preRAll1, unstRLw, unstRLi, unstRLw0, unstRLi0, prlRLw, prlRLi, outRLw, outRLi, etaCap, etaMch, etaWrd, etaFnd, etaRatio, etaWay, Option.bind_some, List.length_map, unStrs, unInts, unBools, uneL_eIs, unCaps, uneL_eCaps, unMchs, unWrds, unFnds, unRatios, unWays, F.lt, F.le, cond_true, cond_false, Bool.and_true, Bool.true_and, unWstU, unBstU, F.bldS_some, F.bldLen_some, decide_eq_false (show ¬ (k : Int) < (l.length : Int) by omega)]
      try rfl
    · simp only [outRLw, hd, F.lgA1]
      rfl

theorem evRLw (l : List Cap) : (runF enRLw false Tryz.f10 [.sl (l.map eCap)]).val =
  Option.bind (unenc encRhC [AV.sl (List.map eCap l)]) fun (z : List Cap) => bif F.smC z then bif F.chkC z != (0 : Int) then some (AV.tup [(vS (ByteArray.mk (Array.mk []))),
  (vI (F.chkC z))], []) else Option.bind (unenc stRLw1 (St.mk [(17, (vI (0 : Int))), (16, (vI (↑(List.length (List.map eCap l)) : Int))), (15, AV.sl (List.map eCap l)), (5,
  (vS (ByteArray.mk (Array.mk [(87 : UInt8), (69 : UInt8), (66 : UInt8), (86 : UInt8), (84 : UInt8), (84 : UInt8), (10 : UInt8), (10 : UInt8)]))))] [])) fun (z : List Cap ×
  ByteArray × Nat) => bif List.all z.fst F.capW && decide (List.length z.fst ≤ (500 : Nat)) && decide (z.snd.snd ≤ List.length z.fst) && decide (ByteArray.size z.snd.fst ≤
  (100 : Nat) + (16000 : Nat) * z.snd.snd) && true then bif decide ((200000 : Int) < (↑(ByteArray.size (F.lgA1 (List.drop z.snd.snd z.fst) z.snd.fst)) : Int)) then some
  (AV.tup [(vS (ByteArray.mk (Array.mk []))), (vI (2 : Int))], []) else some (AV.tup [(vS (F.lgA1 (List.drop z.snd.snd z.fst) z.snd.fst)), (vI (0 : Int))], []) else none
  else none := (runFR_val).symm.trans (by kernel_rfl)

def encRLw1 (l : List Cap) : List AV := [.sl (l.map eCap)]

def encRLw (a : (List Cap)) : List AV := encRLw1 a

theorem encRLw_inj (a a' : (List Cap)) (h : encRLw a = encRLw a') : a = a' := by
  simp only [encRLw, encRLw1] at h
  try simp [strs_inj, ints_inj, bools_inj, eL_eIs_inj, eCaps_inj, eCap_iff, eL_eCaps_inj, eMchs_inj, eMch_iff, eWrds_inj, eWrd_iff, eFnds_inj, eFnd_iff, eRatios_inj, eRatio_iff, eWays_inj, eWay_iff] at h
  grind

theorem unRLw (l : List Cap) : unenc encRLw ([AV.sl (List.map eCap l)]) = some (l) := unenc_of encRLw_inj (l) rfl

def resRLw1 (l : List Cap) : AV × Heap := (.tup [vS (F.longS l), vI (F.longF l)], [])

def preRLw1 (l : List Cap) : Bool := F.smC l

noncomputable def oRLw : Orc := orc 10 false encRLw (fun a => preRLw1 a) fun a => resRLw1 a

theorem okRLw : OrcOK Tryz.prog noG oRLw := by
  refine mk_ok Tryz.f10 (keep := false) (by kernel_rfl) (by kernel_rfl) enRLw_ok mixed (two_loops (x0 := loopN Tryz.f10 0) (x1 := loopN Tryz.f10 1) (by kernel_rfl) (lpo_ok ?_) (lpo_ok ?_)) (by first | exact fun _ _ => ⟨rfl, rfl⟩ | (intro h; cases h)) ?_
  · rintro ⟨l, s, k⟩ hp
    exact lpRLw_ok l s k hp
  · rintro ⟨l, ls, k, s, j⟩ hp
    exact lpRLi_ok l ls k s j hp
  rintro l hpre hok
  show (runF enRLw false _ (encRLw1 _)).val = some (resRLw1 _)
  unfold encRLw1 resRLw1
  rw [evRLw]
  simp only [preRLw1] at hpre
  simp only [unRhC, unIta, unRCk, unRAll, preRhC1, preIta1, preRCk1, preRAll1, unstRLw, unstRLi, unstRLw0, unstRLi0, prlRLw, prlRLi, outRLw, outRLi, etaCap, etaMch, etaWrd, etaFnd, etaRatio, etaWay, Option.bind_some, List.length_map, unStrs, unInts, unBools, uneL_eIs, unCaps, uneL_eCaps, unMchs, unWrds, unFnds, unRatios, unWays, F.lt, F.le, cond_true, cond_false, Bool.and_true, Bool.true_and, unWstU, unBstU, F.bldS_some, F.bldLen_some, hpre, F.longS, F.longF]
  cases hc : F.chkC l != 0
  · have hc0 : F.chkC l = 0 := by simpa using hc
    obtain ⟨g1, g2⟩ := F.chkC_w hc0
    have e1 : decide ((ByteArray.mk (Array.mk [87, 69, 66, 86, 84, 84, 10, 10])).size ≤ 100 + 16000 * 0) = true := rfl
    rw [g2, decide_eq_true g1, decide_eq_true (Nat.zero_le l.length), e1, List.drop_zero]
    simp only [F.bndS, F.bndF]
    rw [show F.longT l = F.lgA1 l (ByteArray.mk (Array.mk [87, 69, 66, 86, 84, 84, 10, 10])) from rfl]
    generalize F.lgA1 l (ByteArray.mk (Array.mk [87, 69, 66, 86, 84, 84, 10, 10])) = T
    by_cases h : 200000 < T.size
    · rw [decide_eq_true h, decide_eq_true (show (200000 : Int) < T.size by omega)]; rfl
    · rw [decide_eq_false h, decide_eq_false (show ¬ (200000 : Int) < T.size by omega)]; rfl
  · rfl

end M
end Go.Proofs.YthcfbeckhgngiaaGreatDoor
