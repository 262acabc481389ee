/- What is proved here: Short of both (no statement of the seat). -/
import Derived.Test.YthcfbeckhgngiaaDoorC146
import Derived.Test.YthcfbeckhgngiaaDoorC9
namespace Go.Proofs.YthcfbeckhgngiaaDoor
open Go Go.RowKit
set_option linter.unusedVariables false
set_option linter.unusedSimpArgs false

theorem F.isN_none : F.isN none = true := rfl

theorem F.isN_some (s : ByteArray) : F.isN (some s) = false := rfl

theorem F.shO_len (l : List Cap) (h : l ≠ []) : F.shO none l 0 = some (F.shW l 0 ⟨⟨[]⟩⟩) := by
  cases l with
  | nil => exact absurd rfl h
  | cons c r =>
    rw [F.shO, F.shO_some, F.shW]
    rfl

theorem F.shW_ge : ∀ (m : List Cap) (s : ByteArray) (i : Nat), s.size ≤ (F.shW m i s).size
  | [], s, i => Nat.le_refl _
  | c :: r, s, i => by
    have := F.shW_ge r (s ++ F.shT i c) (i + 1)
    rw [ByteArray.size_append] at this
    rw [F.shW]
    omega

theorem F.shW_pos {l : List Cap} (h : l ≠ []) (hw : ∀ c ∈ l, F.capW c = true) : 0 < (F.shW l 0 ⟨⟨[]⟩⟩).size := by
  cases l with
  | nil => exact absurd rfl h
  | cons c r =>
    have h1 := F.shT_size (i := 0) (hw c (List.mem_cons_self ..)) (by omega)
    have h2 := F.shW_ge r (⟨⟨[]⟩⟩ ++ F.shT 0 c) (0 + 1)
    rw [ByteArray.size_append] at h2
    rw [F.shW]
    omega

namespace M

theorem evShp (l : List Cap) : (runF enShp false Tryd.f9 [.sl (l.map eCap)]).val =
  Option.bind (unenc encChC [AV.sl (List.map eCap l)]) fun (z : List Cap) => bif F.smC z then bif F.chkC z != (0 : Int) then some (AV.tup [(vS (ByteArray.mk (Array.mk []))), (vI (F.chkC z))], []) else Option.bind (unenc stShp1 (St.mk [(15, (vI (0 : Int))), (14, (vI (↑(List.length (List.map eCap l)) : Int))), (13, AV.sl (List.map eCap l)), (5, .ptr 5 0 0)] [(5, Blk.mk true 52 0 [[AV.v (Value.pointer none), AV.v (Value.slice none (0 : Nat) (0 : Nat))]])])) fun (z : List Cap × Nat) => bif List.all z.fst F.capW && decide (List.length z.fst ≤ (500 : Nat)) && decide (z.snd ≤ List.length z.fst) && true then bif F.shS (List.drop z.snd z.fst) z.snd then bif F.isN (F.shO none (List.drop z.snd z.fst) z.snd) then Option.bind (unenc encBst ([.ptr 900 0 0], [(900, Blk.mk true 52 0 [[AV.v (Value.pointer none), AV.v (Value.slice none (0 : Nat) (0 : Nat))]])])) fun (z : Option ByteArray) => bif (match z with | some val => false | none => true) || decide ((0 : Nat) < ByteArray.size (bldS z)) then bif match z with | some val => false | none => true then Option.bind (unenc encBnd [(vS (ByteArray.mk (Array.mk [])))]) fun (z : ByteArray) => some (AV.tup [(vS (F.bndS z)), (vI (F.bndF z))], []) else none else none else Option.bind (unenc encBst ([.ptr 900 0 0], [(901, Blk.mk false 5 1 (List.map eU (match F.shO none (List.drop z.snd z.fst) z.snd with | none => ByteArray.mk (Array.mk []) | some s => s).data.1)), (900, Blk.mk true 52 0 [[.ptr 900 0 0, .own 901]])])) fun (z : Option ByteArray) => bif (match z with | some val => false | none => true) || decide ((0 : Nat) < ByteArray.size (bldS z)) then bif match z with | some val => false | none => true then none else Option.bind (unenc encBnd [(vS (match z with | none => ByteArray.mk (Array.mk []) | some s => s))]) fun (z : ByteArray) => some (AV.tup [(vS (F.bndS z)), (vI (F.bndF z))], []) else none else some (AV.tup [(vS (ByteArray.mk (Array.mk []))), (vI (3 : Int))], []) else none else none := (runFR_val).symm.trans (by kernel_rfl)

def encShp1 (l : List Cap) : List AV := [.sl (l.map eCap)]

def encShp (a : (List Cap)) : List AV := encShp1 a

theorem encShp_inj (a a' : (List Cap)) (h : encShp a = encShp a') : a = a' := by
  simp only [encShp, encShp1] at h
  try simp [strs_inj, ints_inj, bools_inj, eL_eIs_inj, eCaps_inj, eCap_iff, eL_eCaps_inj, eMchs_inj, eMch_iff, eWrds_inj, eWrd_iff, eFnds_inj, eFnd_iff, eRatios_inj, eRatio_iff, eWays_inj, eWay_iff] at h
  grind

theorem unShp (l : List Cap) : unenc encShp ([AV.sl (List.map eCap l)]) = some (l) := unenc_of encShp_inj (l) rfl

def resShp1 (l : List Cap) : AV × Heap := (.tup [vS (F.shortS l), vI (F.shortF l)], [])

def preShp1 (l : List Cap) : Bool := F.smC l

noncomputable def oShp : Orc := orc 9 false encShp (fun a => preShp1 a) fun a => resShp1 a

theorem okShp : OrcOK Tryd.prog noG oShp := by
  refine mk_ok Tryd.f9 (keep := false) (by kernel_rfl) (by kernel_rfl) enShp_ok mixed (one_loop (x0 := loopN Tryd.f9 0) (by kernel_rfl) (lpo_ok ?_)) (by first | exact fun _ _ => ⟨rfl, rfl⟩ | (intro h; cases h)) ?_
  · rintro ⟨l, k⟩ hp
    exact lpShp_ok l k hp
  rintro l hpre hok
  show (runF enShp false _ (encShp1 _)).val = some (resShp1 _)
  unfold encShp1 resShp1
  rw [evShp]
  simp only [preShp1] at hpre
  simp only [unChC, unIta, unTms, unJoi, unBnd, unWst, unBst, unTmsw, preChC1, preIta1, preTms1, preJoi1, preBnd1, preWst1, preBst1, unstShp, unstShp0, prlShp, outShp, etaCap, etaMch, etaWrd, etaFnd, etaRatio, etaWay, Option.bind_some, List.length_map, unStrs, unInts, unBools, uneL_eIs, unCaps, uneL_eCaps, unMchs, unWrds, unFnds, unRatios, unWays, F.lt, F.le, cond_true, cond_false, Bool.and_true, Bool.true_and, unWstU, unBstU, hpre, F.shortS, F.shortF]
  cases hc : F.chkC l != 0
  · have hc0 : F.chkC l = 0 := by simpa using hc
    obtain ⟨g1, g2⟩ := F.chkC_w hc0
    rw [g2, decide_eq_true g1, decide_eq_true (Nat.zero_le l.length), List.drop_zero]
    cases hs : F.shS l 0
    · rfl
    · by_cases hl : l = []
      · subst hl
        rfl
      · have hp := F.shW_pos hl (List.all_eq_true.1 g2)
        rw [F.shO_len l hl, F.isN_some]
        have hp2 : decide (0 < (bldS (some (F.shW l 0 ⟨⟨[]⟩⟩))).size) = true := decide_eq_true hp
        have u : unenc encBst ([.ptr 900 0 0], [(901, ⟨false, 5, 1, List.map eU (F.shW l 0 ⟨⟨[]⟩⟩).data.1⟩), (900, ⟨true, 52, 0, [[.ptr 900 0 0, .own 901]]⟩)]) = some (some (F.shW l 0 ⟨⟨[]⟩⟩)) := unBstU _
        simp only [u, Option.bind_some, hp2]
        rfl
  · rfl

def stRSh (l : List Cap) (s : ByteArray) (k : Nat) : St := ⟨[(15, vI k), (14, vI l.length), (13, .sl (l.map eCap)), (5, vS s)], []⟩

def stRSh1 (a : (List Cap) × ByteArray × Nat) : St := stRSh a.1 a.2.1 a.2.2

theorem stRSh_inj (a a' : (List Cap) × ByteArray × Nat) (h : stRSh1 a = stRSh1 a') : a = a' := by
  simp only [stRSh1, stRSh] at h
  try simp [strs_inj, ints_inj, bools_inj, eL_eIs_inj, eCaps_inj, eCap_iff, eL_eCaps_inj, eMchs_inj, eMch_iff, eWrds_inj, eWrd_iff, eFnds_inj, eFnd_iff, eRatios_inj, eRatio_iff, eWays_inj, eWay_iff] at h
  grind

theorem unstRSh (l : List Cap) (s : ByteArray) (k : Nat) : unenc stRSh1 (St.mk [(15, (vI (↑k : Int))), (14, (vI (↑(List.length l) : Int))), (13, AV.sl (List.map eCap l)), (5, (vS s))] []) = some (l, s, k) := unenc_of stRSh_inj (l, s, k) rfl

theorem unstRSh0 (l : List Cap)  : unenc stRSh1 (St.mk [(15, (vI (0 : Int))), (14, (vI (↑(List.length l) : Int))), (13, AV.sl (List.map eCap l)), (5, (vS (ByteArray.mk (Array.mk []))))] []) = some (l, ⟨⟨[]⟩⟩, 0) := unenc_of stRSh_inj (l, ⟨⟨[]⟩⟩, 0) rfl

def outRSh (l : List Cap) (s : ByteArray) (k : Nat) : T (Ex × St) := .ifB (F.shS (l.drop k) k) (.ret (.exit 0, ⟨[(5, vS (F.shW (l.drop k) k s))], []⟩)) (.ret (.ret, ⟨[(3, vI 3), (2, vS ⟨⟨[]⟩⟩)], []⟩))

noncomputable def prlRSh (l : List Cap) (s : ByteArray) (k : Nat) : Bool := l.all F.capW && decide (l.length ≤ 500) && decide (k ≤ l.length) && decide (s.size ≤ 4000 * k)

noncomputable def lpRSh : Nat × (St → T (Ex × St)) := (6, lpo [15, 14, 13, 5] [] stRSh1 (fun a => prlRSh a.1 a.2.1 a.2.2) fun a => outRSh a.1 a.2.1 a.2.2)

noncomputable def enRSh : Env := envH ty noG lks [oRhC, oIta, oRCk, oJoi] [] [] [lpRSh]

theorem enRSh_ok : EnvOK Tryd.prog enRSh := by
  refine envH_ok lks_ok ty_ok ?_ ?_
  · simp only [List.forall_mem_cons]
    exact ⟨okRhC, okIta, okRCk, okJoi, by simp⟩
  · simp

theorem evRShL (l : List Cap) (s : ByteArray) (k : Nat) : ((exec enRSh (loopN Tryd.f10 0) (stRSh l s k)).bind (lessX ([15, 14, 13, 5], []) ([5], []) ([3, 2], []))).val =
  bif decide ((↑k : Int) < (↑(List.length l) : Int)) then Option.bind (unenc (List.map eCap) (List.map eCap l)) fun (z : List Cap) => bif decide (k < List.length z) then bif
  bif bif (List.getD z k (Cap.mk (0 : Int) (0 : Int) [] (0 : Int) false false)).row != (0 : Int) then true else (List.getD z k (Cap.mk (0 : Int) (0 : Int) [] (0 : Int) false
  false)).bef then true else (List.getD z k (Cap.mk (0 : Int) (0 : Int) [] (0 : Int) false false)).aft then some (Ex.ret, St.mk [(3, (vI (3 : Int))), (2, (vS (ByteArray.mk
  (Array.mk []))))] []) else Option.bind (unenc encIta [(vI (IntKind.wrap IntKind.i64 ((↑k : Int) + (1 : Int))))]) fun (z_1 : Int) => bif decide ((-9223372036854775808 :
  Int) ≤ z_1) && decide (z_1 ≤ (9223372036854775807 : Int)) then bif Nat.ble (ByteArray.size (F.itoa z_1) + ByteArray.size (ByteArray.mk (Array.mk [(10 : UInt8)])))
  (9223372036854775807 : Nat) then Option.bind (unenc encRCk [(vI (List.getD z k (Cap.mk (0 : Int) (0 : Int) [] (0 : Int) false false)).fr), (vS (ByteArray.mk (Array.mk [(44
  : UInt8)])))]) fun (z_2 : Int × ByteArray) => bif decide ((0 : Int) ≤ z_2.fst) && decide (z_2.fst ≤ (359999999 : Int)) && decide (ByteArray.size z_2.snd = (1 : Nat)) then
  bif Nat.ble (ByteArray.size (F.itoa z_1 ++ ByteArray.mk (Array.mk [(10 : UInt8)])) + ByteArray.size (F.clk z_2.fst z_2.snd)) (9223372036854775807 : Nat) then bif Nat.ble
  (ByteArray.size (F.itoa z_1 ++ ByteArray.mk (Array.mk [(10 : UInt8)]) ++ F.clk z_2.fst z_2.snd) + ByteArray.size (ByteArray.mk (Array.mk [(32 : UInt8), (45 : UInt8), (45 :
  UInt8), (62 : UInt8), (32 : UInt8)]))) (9223372036854775807 : Nat) then Option.bind (unenc encRCk [(vI (List.getD z k (Cap.mk (0 : Int) (0 : Int) [] (0 : Int) false
  false)).to), (vS (ByteArray.mk (Array.mk [(44 : UInt8)])))]) fun (z_3 : Int × ByteArray) => bif decide ((0 : Int) ≤ z_3.fst) && decide (z_3.fst ≤ (359999999 : Int)) &&
  decide (ByteArray.size z_3.snd = (1 : Nat)) then bif Nat.ble (ByteArray.size (F.itoa z_1 ++ ByteArray.mk (Array.mk [(10 : UInt8)]) ++ F.clk z_2.fst z_2.snd ++ ByteArray.mk
  (Array.mk [(32 : UInt8), (45 : UInt8), (45 : UInt8), (62 : UInt8), (32 : UInt8)])) + ByteArray.size (F.clk z_3.fst z_3.snd)) (9223372036854775807 : Nat) then bif Nat.ble
  (ByteArray.size (F.itoa z_1 ++ ByteArray.mk (Array.mk [(10 : UInt8)]) ++ F.clk z_2.fst z_2.snd ++ ByteArray.mk (Array.mk [(32 : UInt8), (45 : UInt8), (45 : UInt8), (62 :
  UInt8), (32 : UInt8)]) ++ F.clk z_3.fst z_3.snd) + ByteArray.size (ByteArray.mk (Array.mk [(10 : UInt8)]))) (9223372036854775807 : Nat) then Option.bind (unenc encJoi
  [AV.sl (List.map eStr (List.getD z k (Cap.mk (0 : Int) (0 : Int) [] (0 : Int) false false)).lines), (vS (ByteArray.mk (Array.mk [(10 : UInt8)])))]) fun (z : List ByteArray
  × ByteArray) => bif decide (ByteArray.size (F.join z.fst z.snd) ≤ (140737488355328 : Nat)) && decide (List.length z.fst ≤ (140737488355328 : Nat)) then bif Nat.ble
  (ByteArray.size (F.itoa z_1 ++ ByteArray.mk (Array.mk [(10 : UInt8)]) ++ F.clk z_2.fst z_2.snd ++ ByteArray.mk (Array.mk [(32 : UInt8), (45 : UInt8), (45 : UInt8), (62 :
  UInt8), (32 : UInt8)]) ++ F.clk z_3.fst z_3.snd ++ ByteArray.mk (Array.mk [(10 : UInt8)])) + ByteArray.size (F.join z.fst z.snd)) (9223372036854775807 : Nat) then bif
  Nat.ble (ByteArray.size (F.itoa z_1 ++ ByteArray.mk (Array.mk [(10 : UInt8)]) ++ F.clk z_2.fst z_2.snd ++ ByteArray.mk (Array.mk [(32 : UInt8), (45 : UInt8), (45 : UInt8),
  (62 : UInt8), (32 : UInt8)]) ++ F.clk z_3.fst z_3.snd ++ ByteArray.mk (Array.mk [(10 : UInt8)]) ++ F.join z.fst z.snd) + ByteArray.size (ByteArray.mk (Array.mk [(10 :
  UInt8), (10 : UInt8)]))) (9223372036854775807 : Nat) then bif Nat.ble (ByteArray.size s + ByteArray.size (F.itoa z_1 ++ ByteArray.mk (Array.mk [(10 : UInt8)]) ++ F.clk
  z_2.fst z_2.snd ++ ByteArray.mk (Array.mk [(32 : UInt8), (45 : UInt8), (45 : UInt8), (62 : UInt8), (32 : UInt8)]) ++ F.clk z_3.fst z_3.snd ++ ByteArray.mk (Array.mk [(10 :
  UInt8)]) ++ F.join z.fst z.snd ++ ByteArray.mk (Array.mk [(10 : UInt8), (10 : UInt8)]))) (9223372036854775807 : Nat) then some (Ex.normal, St.mk [(15, (vI (IntKind.wrap
  IntKind.i64 ((↑k : Int) + (1 : Int))))), (14, (vI (↑(List.length l) : Int))), (13, AV.sl (List.map eCap l)), (5, (vS (s ++ (F.itoa z_1 ++ ByteArray.mk (Array.mk [(10 :
  UInt8)]) ++ F.clk z_2.fst z_2.snd ++ ByteArray.mk (Array.mk [(32 : UInt8), (45 : UInt8), (45 : UInt8), (62 : UInt8), (32 : UInt8)]) ++ F.clk z_3.fst z_3.snd ++
  ByteArray.mk (Array.mk [(10 : UInt8)]) ++ F.join z.fst z.snd ++ ByteArray.mk (Array.mk [(10 : UInt8), (10 : UInt8)])))))] []) else none else none else none else none else
  none else none else none else none else none else none else none else none else none else some (Ex.exit (0 : Nat), St.mk [(5, (vS s))] []) := (execR_bind _ _ _).symm.trans (by kernel_rfl)

theorem lpRSh_ok (l : List Cap) (s : ByteArray) (k : Nat) (hp : prlRSh l s k = true) : ∀ ex s', (outRSh l s k).val = some (ex, s') → LoopOK enRSh (loopN Tryd.f10 0) (stRSh l s k) ex s' := by
  simp only [prlRSh, Bool.and_eq_true, decide_eq_true_eq] at hp
  obtain ⟨⟨⟨h1, h2⟩, h3⟩, h4⟩ := hp
  have hw := List.all_eq_true.1 (h1 : (l.all F.capW) = true)
  have hx : l.length ≤ 9223372036854775807 := by omega
  refine loop_gen (st := fun b : ByteArray × Nat => stRSh l b.1 b.2) (out := fun b => outRSh l b.1 b.2) (I := fun b => b.2 ≤ l.length ∧ b.1.size ≤ 4000 * b.2) (n := ([15, 14, 13, 5], [])) (e := ([5], [])) (r := ([3, 2], [])) (fun b => l.length - b.2) ?_ (s, k) ⟨h3, h4⟩
  rintro ⟨s, k⟩ ⟨i1, i2⟩
  simp only at i1 i2
  by_cases hlt : k < l.length
  · have hy : l[k]? = some l[k] := List.getElem?_eq_getElem hlt
    generalize l[k] = y at hy
    have hd := drop_q hy
    have hc := hw y (List.mem_of_getElem? hy)
    obtain ⟨c1, c2, c3, c4, c5, c6, c7, c8, c9⟩ := F.capW_spec hc
    have eb : (bif bif y.row != 0 then true else y.bef then true else y.aft) = F.shB y := by
      unfold F.shB
      cases (y.row != 0) <;> cases y.bef <;> rfl
    obtain ⟨m, hm⟩ : ∃ m : Int, m = ((k + 1 : Nat) : Int) := ⟨_, rfl⟩
    have w1 : IntKind.i64.wrap ((k : Int) + 1) = m := by rw [wrap_id (by omega) (by omega), hm]; rfl
    have z1 := F.itoa_size (n := m) (by omega) (by omega)
    have z2 : (F.clk y.fr (ByteArray.mk (Array.mk [44]))).size = 12 := by
      obtain ⟨j, hj⟩ := Int.eq_ofNat_of_zero_le c1
      rw [hj, F.clk_size (by omega)]; rfl
    have z2' : (F.clk y.to (ByteArray.mk (Array.mk [44]))).size = 12 := by
      obtain ⟨j, hj⟩ := Int.eq_ofNat_of_zero_le c3
      rw [hj, F.clk_size (by omega)]; rfl
    have z3 : (F.join y.lines (ByteArray.mk (Array.mk [10]))).size ≤ 3015 := F.join_nl_size c8 c7 fun x hx => F.line_size (c9 x hx)
    have z4 : (ByteArray.mk (Array.mk [10])).size = 1 := rfl
    have z5 : (ByteArray.mk (Array.mk [10, 10])).size = 2 := rfl
    have z7 : (ByteArray.mk (Array.mk [32, 45, 45, 62, 32])).size = 5 := rfl
    have z6 : decide ((ByteArray.mk (Array.mk [44])).size = 1) = true := rfl
    have hT : F.itoa m ++ ByteArray.mk (Array.mk [10]) ++ F.clk y.fr (ByteArray.mk (Array.mk [44])) ++ ByteArray.mk (Array.mk [32, 45, 45, 62, 32]) ++ F.clk y.to (ByteArray.mk (Array.mk [44])) ++ ByteArray.mk (Array.mk [10]) ++ F.join y.lines (ByteArray.mk (Array.mk [10])) ++ ByteArray.mk (Array.mk [10, 10]) = F.shT k y := by
      rw [hm]
      refine F.bsx ?_
      unfold F.shT F.tms
      simp only [F.bs_app, List.append_assoc]
      rfl
    obtain ⟨s1, s2⟩ := F.shT_size (i := k) hc (by omega)
    cases hB : F.shB y
    · right
      refine ⟨(s ++ F.shT k y, k + 1), ?_, rfl, ⟨by simp only; omega, by simp only [ByteArray.size_append]; omega⟩, by simp only; omega, ?_⟩
      · rw [evRShL]
        simp only [unRhC, unIta, unRCk, unJoi, preRhC1, preIta1, preRCk1, preJoi1, unstRSh, unstRSh0, prlRSh, outRSh, etaCap, etaMch, etaWrd, etaFnd, etaRatio, etaWay, Option.bind_some, List.length_map, unStrs, unInts, unBools, uneL_eIs, unCaps, uneL_eCaps, unMchs, unWrds, unFnds, unRatios, unWays, F.lt, F.le, cond_true, cond_false, Bool.and_true, Bool.true_and, unWstU, unBstU, cast_lt hlt, decide_eq_true hlt, getD_at hy, eb, hB, w1, decide_eq_true c1, decide_eq_true c2, decide_eq_true c3, decide_eq_true c4, z6, hT]
        simp only [ByteArray.size_append, z2, z2', z4, z5, z7]
        rw [decide_eq_true (show -9223372036854775808 ≤ m by omega), decide_eq_true (show m ≤ 9223372036854775807 by omega), ble_t (by omega), ble_t (by omega), ble_t (by omega), ble_t (by omega), ble_t (by omega), ble_t (by omega), ble_t (by omega), ble_t (by omega), decide_eq_true (show (F.join y.lines (ByteArray.mk (Array.mk [10]))).size ≤ 140737488355328 by omega), decide_eq_true (show y.lines.length ≤ 140737488355328 by omega)]
        rw [hm]
        rfl
      · simp only [outRSh, hd, F.shS, hB, F.shW, Bool.not_false, Bool.true_and]
    · left
      refine ⟨(.ret, ⟨[(3, vI 3), (2, vS ⟨⟨[]⟩⟩)], []⟩), ?_, ?_, by simp, rfl⟩
      · rw [evRShL]
        simp only [unRhC, unIta, unRCk, unJoi, preRhC1, preIta1, preRCk1, preJoi1, unstRSh, unstRSh0, prlRSh, outRSh, etaCap, etaMch, etaWrd, etaFnd, etaRatio, etaWay, Option.bind_some, List.length_map, unStrs, unInts, unBools, uneL_eIs, unCaps, uneL_eCaps, unMchs, unWrds, unFnds, unRatios, unWays, F.lt, F.le, cond_true, cond_false, Bool.and_true, Bool.true_and, unWstU, unBstU, cast_lt hlt, decide_eq_true hlt, getD_at hy, eb, hB]
      · simp only [outRSh, hd, F.shS, hB, Bool.not_true, Bool.false_and]
        rfl
  · have hd : l.drop k = [] := List.drop_eq_nil_of_le (by omega)
    left
    refine ⟨(.exit 0, ⟨[(5, vS s)], []⟩), ?_, ?_, by simp, rfl⟩
    · rw [evRShL]
      simp only [unRhC, unIta, unRCk, unJoi, preRhC1, preIta1, preRCk1, preJoi1, unstRSh, unstRSh0, prlRSh, outRSh, etaCap, etaMch, etaWrd, etaFnd, etaRatio, etaWay, Option.bind_some, List.length_map, unStrs, unInts, unBools, uneL_eIs, unCaps, uneL_eCaps, unMchs, unWrds, unFnds, unRatios, unWays, F.lt, F.le, cond_true, cond_false, Bool.and_true, Bool.true_and, unWstU, unBstU, decide_eq_false (show ¬ (k : Int) < (l.length : Int) by omega)]
    · simp only [outRSh, hd, F.shS, F.shW]
      rfl

theorem evRSh (l : List Cap) : (runF enRSh false Tryd.f10 [.sl (l.map eCap)]).val =
  Option.bind (unenc encRhC [AV.sl (List.map eCap l)]) fun (z : List Cap) => bif F.smC z then bif F.chkC z != (0 : Int) then some (AV.tup [(vS (ByteArray.mk (Array.mk []))),
  (vI (F.chkC z))], []) else Option.bind (unenc stRSh1 (St.mk [(15, (vI (0 : Int))), (14, (vI (↑(List.length (List.map eCap l)) : Int))), (13, AV.sl (List.map eCap l)), (5,
  (vS (ByteArray.mk (Array.mk []))))] [])) fun (z : List Cap × ByteArray × Nat) => bif List.all z.fst F.capW && decide (List.length z.fst ≤ (500 : Nat)) && decide (z.snd.snd
  ≤ List.length z.fst) && decide (ByteArray.size z.snd.fst ≤ (4000 : Nat) * z.snd.snd) && true then bif F.shS (List.drop z.snd.snd z.fst) z.snd.snd then bif decide ((200000
  : Int) < (↑(ByteArray.size (F.shW (List.drop z.snd.snd z.fst) z.snd.snd z.snd.fst)) : Int)) then some (AV.tup [(vS (ByteArray.mk (Array.mk []))), (vI (2 : Int))], []) else
  some (AV.tup [(vS (F.shW (List.drop z.snd.snd z.fst) z.snd.snd z.snd.fst)), (vI (0 : Int))], []) else some (AV.tup [(vS (ByteArray.mk (Array.mk []))), (vI (3 : Int))], [])
  else none else none := (runFR_val).symm.trans (by kernel_rfl)

def encRSh1 (l : List Cap) : List AV := [.sl (l.map eCap)]

def encRSh (a : (List Cap)) : List AV := encRSh1 a

theorem encRSh_inj (a a' : (List Cap)) (h : encRSh a = encRSh a') : a = a' := by
  simp only [encRSh, encRSh1] at h
  try simp [strs_inj, ints_inj, bools_inj, eL_eIs_inj, eCaps_inj, eCap_iff, eL_eCaps_inj, eMchs_inj, eMch_iff, eWrds_inj, eWrd_iff, eFnds_inj, eFnd_iff, eRatios_inj, eRatio_iff, eWays_inj, eWay_iff] at h
  grind

theorem unRSh (l : List Cap) : unenc encRSh ([AV.sl (List.map eCap l)]) = some (l) := unenc_of encRSh_inj (l) rfl

def resRSh1 (l : List Cap) : AV × Heap := (.tup [vS (F.shortS l), vI (F.shortF l)], [])

def preRSh1 (l : List Cap) : Bool := F.smC l

noncomputable def oRSh : Orc := orc 10 false encRSh (fun a => preRSh1 a) fun a => resRSh1 a

theorem okRSh : OrcOK Tryd.prog noG oRSh := by
  refine mk_ok Tryd.f10 (keep := false) (by kernel_rfl) (by kernel_rfl) enRSh_ok mixed (one_loop (x0 := loopN Tryd.f10 0) (by kernel_rfl) (lpo_ok ?_)) (by first | exact fun _ _ => ⟨rfl, rfl⟩ | (intro h; cases h)) ?_
  · rintro ⟨l, s, k⟩ hp
    exact lpRSh_ok l s k hp
  rintro l hpre hok
  show (runF enRSh false _ (encRSh1 _)).val = some (resRSh1 _)
  unfold encRSh1 resRSh1
  rw [evRSh]
  simp only [preRSh1] at hpre
  simp only [unRhC, unIta, unRCk, unJoi, preRhC1, preIta1, preRCk1, preJoi1, unstRSh, unstRSh0, prlRSh, outRSh, etaCap, etaMch, etaWrd, etaFnd, etaRatio, etaWay, Option.bind_some, List.length_map, unStrs, unInts, unBools, uneL_eIs, unCaps, uneL_eCaps, unMchs, unWrds, unFnds, unRatios, unWays, F.lt, F.le, cond_true, cond_false, Bool.and_true, Bool.true_and, unWstU, unBstU, hpre, F.shortS, F.shortF]
  cases hc : F.chkC l != 0
  · have hc0 : F.chkC l = 0 := by simpa using hc
    obtain ⟨g1, g2⟩ := F.chkC_w hc0
    rw [g2, decide_eq_true g1, decide_eq_true (Nat.zero_le l.length), List.drop_zero]
    cases hs : F.shS l 0
    · rfl
    · simp only [F.bndS, F.bndF]
      generalize F.shW l 0 ⟨⟨[]⟩⟩ = T
      by_cases h : 200000 < T.size
      · rw [decide_eq_true h, decide_eq_true (show (200000 : Int) < T.size by omega)]; rfl
      · rw [decide_eq_false h, decide_eq_false (show ¬ (200000 : Int) < T.size by omega)]; rfl
  · rfl

end M
end Go.Proofs.YthcfbeckhgngiaaDoor
