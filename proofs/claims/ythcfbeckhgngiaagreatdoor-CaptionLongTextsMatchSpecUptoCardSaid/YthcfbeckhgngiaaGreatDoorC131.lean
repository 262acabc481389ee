/- What is proved here: what strings.Cut, strconv.Atoi and the readers of the long form's lines return on plain data (no statement of the seat). -/
import Derived.Test.YthcfbeckhgngiaaGreatDoorC130
import Derived.Test.YthcfbeckhgngiaaGreatDoorC116
import Derived.Lib.AtoiErrMem
import Derived.Lib.Atoi
namespace Go.Proofs.YthcfbeckhgngiaaGreatDoor
open Go Go.RowKit
set_option linter.unusedVariables false
set_option linter.unusedSimpArgs false

namespace F

def cutH (s p : ByteArray) : ByteArray := ⟨(Lib.cut (bs s) (bs p)).1.toArray⟩

def cutT (s p : ByteArray) : ByteArray := ⟨(Lib.cut (bs s) (bs p)).2.1.toArray⟩

def cutF (s p : ByteArray) : Bool := (Lib.cut (bs s) (bs p)).2.2

def ato (s : ByteArray) : Int := (Lib.atoi (bs s)).getD 0

theorem decFrom_dig : ∀ (l : List UInt8) (acc : Nat), l.all digB = true → ∃ n, Lib.decFrom acc l = some n
  | [], acc, _ => ⟨acc, rfl⟩
  | b :: r, acc, h => by
    simp only [List.all_cons, Bool.and_eq_true] at h
    have hb : 48 ≤ (b.toNat : Int) ∧ (b.toNat : Int) ≤ 57 := by simpa [digB, digit] using h.1
    have hd : Lib.digitVal b = some (b.toNat - 48) := by
      unfold Lib.digitVal
      rw [if_pos ⟨by omega, by omega⟩]
    obtain ⟨n, hn⟩ := decFrom_dig r (acc * 10 + (b.toNat - 48)) h.2
    exact ⟨n, by unfold Lib.decFrom; rw [hd]; exact hn⟩

theorem isNum_ato {s : ByteArray} (h : isNum s = true) : s.size ≤ 18 ∧ Lib.atoi (bs s) = some (ato s) ∧ 0 ≤ ato s ∧ ato s ≤ 1000000000000000000 := by
  unfold isNum at h
  simp only [Bool.and_eq_true, decide_eq_true_eq] at h
  obtain ⟨⟨h1, h2⟩, h3⟩ := h
  have hl := bs_len s
  cases hs : bs s with
  | nil => rw [hs] at hl; simp at hl; omega
  | cons b r =>
    rw [hs] at h1
    have hb : 48 ≤ (b.toNat : Int) ∧ (b.toNat : Int) ≤ 57 := by
      simp only [List.all_cons, Bool.and_eq_true] at h1
      simpa [digB, digit] using h1.1
    have n1 : (b == 45) = false := by rw [beq_eq_false_iff_ne]; rintro rfl; exact absurd hb.1 (by decide)
    have n2 : (b == 43) = false := by rw [beq_eq_false_iff_ne]; rintro rfl; exact absurd hb.1 (by decide)
    obtain ⟨n, hn⟩ := decFrom_dig (b :: r) 0 h1
    have ha : Lib.atoi (bs s) = some (n : Int) := by
      rw [hs]
      simp [Lib.atoi, Lib.decNat, n1, n2, hn]
    have hlt := Lib.decFrom_lt18 hn (by rw [← hs, hl]; omega)
    have he : ato s = (n : Int) := by unfold ato; rw [ha]; rfl
    rw [hs] at ha
    rw [he]
    exact ⟨by omega, ha, by omega, by omega⟩

theorem cutH_size (s p : ByteArray) : (cutH s p).size ≤ s.size := by
  have hl := bs_len s
  show (Lib.cut (bs s) (bs p)).1.toArray.size ≤ _
  unfold Lib.cut
  split
  · simp only [List.size_toArray, List.length_take]; omega
  · simp only [List.size_toArray]; omega

theorem cutT_size (s p : ByteArray) : (cutT s p).size ≤ s.size := by
  have hl := bs_len s
  show (Lib.cut (bs s) (bs p)).2.1.toArray.size ≤ _
  unfold Lib.cut
  split
  · simp only [List.size_toArray, List.length_drop]; omega
  · simp

/-- How many of the first bytes are neither & nor <. -/
def runN : List UInt8 → Nat
  | [] => 0
  | b :: r => bif b == 38 || b == 60 then 0 else runN r + 1

theorem runN_le : ∀ l, runN l ≤ l.length
  | [] => Nat.le_refl 0
  | b :: r => by
    rw [runN]
    have := runN_le r
    cases (b == 38 || b == 60) <;> simp <;> omega

theorem runN_mem : ∀ (l : List UInt8), ∀ b ∈ l.take (runN l), b ≠ 38 ∧ b ≠ 60
  | [], b, h => by simp [runN] at h
  | x :: r, b, h => by
    rw [runN] at h
    cases hx : (x == 38 || x == 60)
    · rw [hx] at h
      simp only [cond_false, List.take_succ_cons, List.mem_cons] at h
      simp only [Bool.or_eq_false_iff, beq_eq_false_iff_ne] at hx
      rcases h with rfl | h
      · exact hx
      · exact runN_mem r b h
    · rw [hx] at h; simp at h

theorem eq38 (b : UInt8) : ((b.toNat : Int) == 38) = (b == 38) := by
  have := beqU b 38
  have h : ((b.toNat : Int) != 38) = !(b == 38) := this
  unfold bne at h
  cases h1 : ((b.toNat : Int) == 38) <;> cases h2 : (b == 38) <;> rw [h1, h2] at h <;> first | rfl | cases h

theorem eq60 (b : UInt8) : ((b.toNat : Int) == 60) = (b == 60) := by
  have := beqU b 60
  have h : ((b.toNat : Int) != 60) = !(b == 60) := this
  unfold bne at h
  cases h1 : ((b.toNat : Int) == 60) <;> cases h2 : (b == 60) <;> rw [h1, h2] at h <;> first | rfl | cases h

def plG (s : ByteArray) : Bool := found (plR s)

def plV (s : ByteArray) : ByteArray := got (plR s) ⟨⟨[]⟩⟩

end F

namespace M

def encCut1 (s : ByteArray) (p : ByteArray) : List AV := [vS s, vS p]

def encCut (a : ByteArray × ByteArray) : List AV := encCut1 a.1 a.2

theorem encCut_inj (a a' : ByteArray × ByteArray) (h : encCut a = encCut a') : a = a' := by
  simp only [encCut, encCut1] at h
  try simp [strs_inj, ints_inj, bools_inj, eL_eIs_inj, eCaps_inj, eCap_iff, eL_eCaps_inj, eMchs_inj, eMch_iff, eWrds_inj, eWrd_iff, eFnds_inj, eFnd_iff, eRatios_inj, eRatio_iff, eWays_inj, eWay_iff] at h
  grind

theorem unCut (s : ByteArray) (p : ByteArray) : unenc encCut ([(vS s), (vS p)]) = some (s, p) := unenc_of encCut_inj (s, p) rfl

def resCut1 (s : ByteArray) (p : ByteArray) : AV × Heap := (.tup [vS (F.cutH s p), vS (F.cutT s p), vB (F.cutF s p)], [])

def preCut1 (s : ByteArray) (p : ByteArray) : Bool := decide (s.size ≤ 4294967280)

noncomputable def oCut : Orc := orc 41 true encCut (fun a => preCut1 a.1 a.2) fun a => resCut1 a.1 a.2

theorem okCut : OrcOK Tryz.prog noG oCut := by
  refine orc_ok ⟨Tryz.f41, by kernel_rfl, by kernel_rfl, by kernel_rfl⟩ (fun x hp _ => ?_) (fun _ _ => ⟨rfl, rfl⟩)
  obtain ⟨s, p⟩ := x
  simp only [preCut1, decide_eq_true_eq] at hp
  have h1 := F.cutH_size s p
  have h2 := F.cutT_size s p
  refine SpecP.below2 (rv := .tuple #[.string (F.cutH s p), .string (F.cutT s p), .bool (F.cutF s p)]) (fun w S => ⟨[_, _, _], rfl, R0.v (by show (F.cutH s p).size ≤ 9223372036854775807; omega), R0.v (by show (F.cutT s p).size ≤ 9223372036854775807; omega), R0.v trivial, trivial⟩) fun hk _ w S hG => ?_
  obtain ⟨m, hm⟩ := maxLen_of hG
  refine (Tryz.strings_Cut s p m w (by omega) hm).mono ?_
  rintro e w' ⟨he, n, rfl⟩
  exact ⟨he, ⟨rfl, rfl, rfl, Nat.le_refl _, fun _ _ => rfl⟩⟩

def encAto1 (s : ByteArray) : List AV := [vS s]

def encAto (a : ByteArray) : List AV := encAto1 a

theorem encAto_inj (a a' : ByteArray) (h : encAto a = encAto a') : a = a' := by
  simp only [encAto, encAto1] at h
  try simp [strs_inj, ints_inj, bools_inj, eL_eIs_inj, eCaps_inj, eCap_iff, eL_eCaps_inj, eMchs_inj, eMch_iff, eWrds_inj, eWrd_iff, eFnds_inj, eFnd_iff, eRatios_inj, eRatio_iff, eWays_inj, eWay_iff] at h
  grind

theorem unAto (s : ByteArray) : unenc encAto ([(vS s)]) = some (s) := unenc_of encAto_inj (s) rfl

def resAto1 (s : ByteArray) : AV × Heap := (.tup [vI (F.ato s), .v .nilIface], [])

def preAto1 (s : ByteArray) : Bool := F.isNum s

noncomputable def oAto : Orc := orc 43 true encAto (fun a => preAto1 a) fun a => resAto1 a

theorem okAto : OrcOK Tryz.prog noG oAto := by
  refine orc_ok ⟨Tryz.f43, by kernel_rfl, by kernel_rfl, by kernel_rfl⟩ (fun s hp _ => ?_) (fun _ _ => ⟨rfl, rfl⟩)
  obtain ⟨h1, h2, h3, h4⟩ := F.isNum_ato hp
  refine SpecP.below1 (rv := .tuple #[.int .i64 (F.ato s), .nilIface]) (fun w S => ⟨[_, _], rfl, R0.v (by simp only [okAtom, IntKind.min, IntKind.max, IntKind.signed, IntKind.bits]; simp; omega), R0.v trivial, trivial⟩) fun hk w S hG => ?_
  refine (Tryz.strconv_Atoi s (F.ato s) h1 h2 w).mono ?_
  rintro e w' ⟨he, t, rfl⟩
  exact ⟨he, Lib.bytesWorld_below w _ _⟩

def stPli (s : ByteArray) (out : ByteArray) (n : Nat) : St := ⟨[(5, vI n), (4, vS out), (0, vS s)], []⟩

def stPli1 (a : ByteArray × ByteArray × Nat) : St := stPli a.1 a.2.1 a.2.2

theorem stPli_inj (a a' : ByteArray × ByteArray × Nat) (h : stPli1 a = stPli1 a') : a = a' := by
  simp only [stPli1, stPli] at h
  try simp [strs_inj, ints_inj, bools_inj, eL_eIs_inj, eCaps_inj, eCap_iff, eL_eCaps_inj, eMchs_inj, eMch_iff, eWrds_inj, eWrd_iff, eFnds_inj, eFnd_iff, eRatios_inj, eRatio_iff, eWays_inj, eWay_iff] at h
  grind

theorem unstPli (s : ByteArray) (out : ByteArray) (n : Nat) : unenc stPli1 (St.mk [(5, (vI (↑n : Int))), (4, (vS out)), (0, (vS s))] []) = some (s, out, n) := unenc_of stPli_inj (s, out, n) rfl

theorem unstPli0 (s : ByteArray) (out : ByteArray)  : unenc stPli1 (St.mk [(5, (vI (1 : Int))), (4, (vS out)), (0, (vS s))] []) = some (s, out, 1) := unenc_of stPli_inj (s, out, 1) rfl

def outPli (s : ByteArray) (out : ByteArray) (n : Nat) : T (Ex × St) := .ret (.exit 3, ⟨[(5, vI (n + F.runN ((F.bs s).drop n) : Nat)), (4, vS out), (0, vS s)], []⟩)

noncomputable def prlPli (s : ByteArray) (out : ByteArray) (n : Nat) : Bool := decide (s.size ≤ 4294967280) && decide (n ≤ 4294967290)

noncomputable def lpPli : Nat × (St → T (Ex × St)) := (4, lpo [5, 4, 0] [] stPli1 (fun a => prlPli a.1 a.2.1 a.2.2) fun a => outPli a.1 a.2.1 a.2.2)

def stPln (s : ByteArray) (out : ByteArray) : St := ⟨[(4, vS out), (0, vS s)], []⟩

def stPln1 (a : ByteArray × ByteArray) : St := stPln a.1 a.2

theorem stPln_inj (a a' : ByteArray × ByteArray) (h : stPln1 a = stPln1 a') : a = a' := by
  simp only [stPln1, stPln] at h
  try simp [strs_inj, ints_inj, bools_inj, eL_eIs_inj, eCaps_inj, eCap_iff, eL_eCaps_inj, eMchs_inj, eMch_iff, eWrds_inj, eWrd_iff, eFnds_inj, eFnd_iff, eRatios_inj, eRatio_iff, eWays_inj, eWay_iff] at h
  grind

theorem unstPln (s : ByteArray) (out : ByteArray) : unenc stPln1 (St.mk [(4, (vS out)), (0, (vS s))] []) = some (s, out) := unenc_of stPln_inj (s, out) rfl

def outPln (s : ByteArray) (out : ByteArray) : T (Ex × St) := .ifB (F.found (F.plB s.size s out)) (.ret (.exit 0, ⟨[(4, vS (F.got (F.plB s.size s out) ⟨⟨[]⟩⟩))], []⟩)) (.ret (.ret, ⟨[(3, vB false), (2, vS ⟨⟨[]⟩⟩)], []⟩))

noncomputable def prlPln (s : ByteArray) (out : ByteArray) : Bool := decide (s.size + out.size ≤ 4294967280)

noncomputable def lpPln : Nat × (St → T (Ex × St)) := (2, lpo [4, 0] [] stPln1 (fun a => prlPln a.1 a.2) fun a => outPln a.1 a.2)

noncomputable def enPln : Env := envH ty noG lks [oHsP] [] [] [lpPln, lpPli]

theorem enPln_ok : EnvOK Tryz.prog enPln := by
  refine envH_ok lks_ok ty_ok ?_ ?_
  · simp only [List.forall_mem_cons]
    exact ⟨okHsP, by simp⟩
  · simp

theorem evPliL (s : ByteArray) (out : ByteArray) (n : Nat) : ((exec enPln (loopN Tryz.f37 1) (stPli s out n)).bind (lessX ([5, 4, 0], []) ([5, 4, 0], []) ([], []))).val =
  bif decide ((↑n : Int) < (↑(ByteArray.size s) : Int)) then Option.bind s[n]? fun (z : UInt8) => bif (↑(UInt8.toNat z) : Int) != (38 : Int) then Option.bind s[n]? fun (z :
  UInt8) => bif (↑(UInt8.toNat z) : Int) != (60 : Int) then some (Ex.normal, St.mk [(5, (vI (IntKind.wrap IntKind.i64 ((↑n : Int) + (1 : Int))))), (4, (vS out)), (0, (vS
  s))] []) else some (Ex.exit (3 : Nat), St.mk [(5, (vI (↑n : Int))), (4, (vS out)), (0, (vS s))] []) else some (Ex.exit (3 : Nat), St.mk [(5, (vI (↑n : Int))), (4, (vS
  out)), (0, (vS s))] []) else some (Ex.exit (3 : Nat), St.mk [(5, (vI (↑n : Int))), (4, (vS out)), (0, (vS s))] []) := (execR_bind _ _ _).symm.trans (by kernel_rfl)

theorem lpPli_ok (s : ByteArray) (out : ByteArray) (n : Nat) (hp : prlPli s out n = true) : ∀ ex s', (outPli s out n).val = some (ex, s') → LoopOK enPln (loopN Tryz.f37 1) (stPli s out n) ex s' := by
  simp only [prlPli, Bool.and_eq_true, decide_eq_true_eq] at hp
  obtain ⟨h1, h2⟩ := hp
  refine loop_gen (st := fun b : Nat => stPli s out b) (out := fun b => outPli s out b) (I := fun b => b ≤ 4294967290) (n := ([5, 4, 0], [])) (e := ([5, 4, 0], [])) (r := ([], [])) (fun b => s.size - b) ?_ n h2
  · intro n i1
    have w1 : IntKind.i64.wrap ((n : Int) + 1) = ((n + 1 : Nat) : Int) := by rw [wrap_id (by omega) (by omega)]; rfl
    by_cases hk : n < s.size
    · obtain ⟨y, hy⟩ : ∃ y, (F.bs s)[n]? = some y := ⟨_, List.getElem?_eq_getElem (by rw [F.bs_len]; exact hk)⟩
      have hd := drop_q hy
      cases hc : (y == 38 || y == 60)
      · right
        refine ⟨n + 1, ?_, rfl, by omega, by omega, ?_⟩
        · rw [evPliL]
          rw [F.bs_get, hy]
          simp only [Bool.or_eq_false_iff] at hc
          simp only [unHsP, preHsP1, unstPln, unstPli, unstPli0, prlPln, prlPli, outPln, outPli, etaCap, etaMch, etaWrd, etaFnd, etaRatio, etaWay, Option.bind_some, List.length_map, unStrs, unInts, unBools, uneL_eIs, unCaps, uneL_eCaps, unMchs, unWrds, unFnds, unRatios, unWays, F.lt, F.le, cond_true, cond_false, Bool.and_true, Bool.true_and, cast_lt hk, F.eq38, F.eq60, hc.1, hc.2, w1, bne]
          try rfl
        · have e1 : n + (F.runN ((F.bs s).drop (n + 1)) + 1) = n + 1 + F.runN ((F.bs s).drop (n + 1)) := by omega
          simp only [outPli, hd, F.runN, hc, cond_false, e1]
      · left
        refine ⟨(.exit 3, ⟨[(5, vI n), (4, vS out), (0, vS s)], []⟩), ?_, ?_, by simp, rfl⟩
        · rw [evPliL]
          rw [F.bs_get, hy]
          simp only [unHsP, preHsP1, unstPln, unstPli, unstPli0, prlPln, prlPli, outPln, outPli, etaCap, etaMch, etaWrd, etaFnd, etaRatio, etaWay, Option.bind_some, List.length_map, unStrs, unInts, unBools, uneL_eIs, unCaps, uneL_eCaps, unMchs, unWrds, unFnds, unRatios, unWays, F.lt, F.le, cond_true, cond_false, Bool.and_true, Bool.true_and, cast_lt hk, F.eq38, F.eq60, bne]
          cases h1 : y == 38
          · rw [h1, Bool.false_or] at hc
            rw [hc]; rfl
          · rfl
        · simp only [outPli, hd, F.runN, hc, cond_true, Nat.add_zero]
          rfl
    · left
      have hd : (F.bs s).drop n = [] := List.drop_eq_nil_of_le (by rw [F.bs_len]; omega)
      refine ⟨(.exit 3, ⟨[(5, vI n), (4, vS out), (0, vS s)], []⟩), ?_, ?_, by simp, rfl⟩
      · rw [evPliL]
        simp only [unHsP, preHsP1, unstPln, unstPli, unstPli0, prlPln, prlPli, outPln, outPli, etaCap, etaMch, etaWrd, etaFnd, etaRatio, etaWay, Option.bind_some, List.length_map, unStrs, unInts, unBools, uneL_eIs, unCaps, uneL_eCaps, unMchs, unWrds, unFnds, unRatios, unWays, F.lt, F.le, cond_true, cond_false, Bool.and_true, Bool.true_and, decide_eq_false (show ¬ (n : Int) < (s.size : Int) by omega)]
        try rfl
      · simp only [outPli, hd, F.runN, Nat.add_zero]
        rfl

theorem plx (s out : ByteArray) : ∀ k f, s.size = f + 1 → 1 ≤ k → F.plB f (s.extract k s.size) out = F.plB (s.extract k s.size).size (s.extract k s.size) out := fun k f h hk => by
  have := F.ext_sz s k
  exact F.plB_fuel _ _ _ _ (by omega) (Nat.le_refl _)

theorem ble_add {a b : Nat} (h : a + b ≤ 9223372036854775807) : Nat.ble (a + b) 9223372036854775807 = true := ble_t h

theorem evPlnL (s : ByteArray) (out : ByteArray) : ((exec enPln (loopN Tryz.f37 0) (stPln s out)).bind (lessX ([4, 0], []) ([4], []) ([3, 2], []))).val =
  bif !ByteArray.toList s == ByteArray.toList (ByteArray.mk (Array.mk [])) then Option.bind (unenc encHsP [(vS s), (vS (ByteArray.mk (Array.mk [(38 : UInt8), (97 : UInt8),
  (109 : UInt8), (112 : UInt8), (59 : UInt8)])))]) fun (z : ByteArray × ByteArray) => bif F.hasP z.fst z.snd then bif Nat.ble (ByteArray.size out + ByteArray.size
  (ByteArray.mk (Array.mk [(38 : UInt8)]))) (9223372036854775807 : Nat) then bif Nat.ble (5 : Nat) (ByteArray.size s) && Nat.ble (ByteArray.size s) (ByteArray.size s) then
  some (Ex.normal, St.mk [(4, (vS (out ++ ByteArray.mk (Array.mk [(38 : UInt8)])))), (0, (vS (ByteArray.extract s (5 : Nat) (ByteArray.size s))))] []) else none else none
  else Option.bind (unenc encHsP [(vS s), (vS (ByteArray.mk (Array.mk [(38 : UInt8), (108 : UInt8), (116 : UInt8), (59 : UInt8)])))]) fun (z : ByteArray × ByteArray) => bif
  F.hasP z.fst z.snd then bif Nat.ble (ByteArray.size out + ByteArray.size (ByteArray.mk (Array.mk [(60 : UInt8)]))) (9223372036854775807 : Nat) then bif Nat.ble (4 : Nat)
  (ByteArray.size s) && Nat.ble (ByteArray.size s) (ByteArray.size s) then some (Ex.normal, St.mk [(4, (vS (out ++ ByteArray.mk (Array.mk [(60 : UInt8)])))), (0, (vS
  (ByteArray.extract s (4 : Nat) (ByteArray.size s))))] []) else none else none else Option.bind s[(0 : Nat)]? fun (z : UInt8) => bif !(↑(UInt8.toNat z) : Int) == (38 : Int)
  then Option.bind s[(0 : Nat)]? fun (z : UInt8) => bif (↑(UInt8.toNat z) : Int) == (60 : Int) then some (Ex.ret, St.mk [(3, (vB false)), (2, (vS (ByteArray.mk (Array.mk
  []))))] []) else Option.bind (unenc stPli1 (St.mk [(5, (vI (1 : Int))), (4, (vS out)), (0, (vS s))] [])) fun (z : ByteArray × ByteArray × Nat) => bif decide
  (ByteArray.size z.fst ≤ (4294967280 : Nat)) && decide (z.snd.snd ≤ (4294967290 : Nat)) && true then bif Nat.ble (0 : Nat) (z.snd.snd + F.runN (List.drop z.snd.snd (F.bs
  z.fst))) && Nat.ble (z.snd.snd + F.runN (List.drop z.snd.snd (F.bs z.fst))) (ByteArray.size z.fst) then bif Nat.ble (ByteArray.size z.snd.fst + ByteArray.size
  (ByteArray.extract z.fst (0 : Nat) (z.snd.snd + F.runN (List.drop z.snd.snd (F.bs z.fst))))) (9223372036854775807 : Nat) then bif Nat.ble (z.snd.snd + F.runN (List.drop
  z.snd.snd (F.bs z.fst))) (ByteArray.size z.fst) && Nat.ble (ByteArray.size z.fst) (ByteArray.size z.fst) then some (Ex.normal, St.mk [(4, (vS (z.snd.fst ++
  ByteArray.extract z.fst (0 : Nat) (z.snd.snd + F.runN (List.drop z.snd.snd (F.bs z.fst)))))), (0, (vS (ByteArray.extract z.fst (z.snd.snd + F.runN (List.drop z.snd.snd
  (F.bs z.fst))) (ByteArray.size z.fst))))] []) else none else none else none else none else some (Ex.ret, St.mk [(3, (vB false)), (2, (vS (ByteArray.mk (Array.mk []))))]
  []) else some (Ex.exit (0 : Nat), St.mk [(4, (vS out))] []) := (execR_bind _ _ _).symm.trans (by kernel_rfl)

theorem lpPln_ok (s : ByteArray) (out : ByteArray) (hp : prlPln s out = true) : ∀ ex s', (outPln s out).val = some (ex, s') → LoopOK enPln (loopN Tryz.f37 0) (stPln s out) ex s' := by
  simp only [prlPln, Bool.and_eq_true, decide_eq_true_eq] at hp
  refine loop_gen (st := fun b : ByteArray × ByteArray => stPln b.1 b.2) (out := fun b => outPln b.1 b.2) (I := fun b => b.1.size + b.2.size ≤ 4294967280) (n := ([4, 0], [])) (e := ([4], [])) (r := ([3, 2], [])) (fun b => b.1.size) ?_ (s, out) hp
  rintro ⟨s, out⟩ i1
  simp only at i1
  have ey : (s.toList == (⟨⟨[]⟩⟩ : ByteArray).toList) = F.emp s := rfl
  have ea : (⟨⟨[38, 97, 109, 112, 59]⟩⟩ : ByteArray) = F.amp5 := rfl
  have el : (⟨⟨[38, 108, 116, 59]⟩⟩ : ByteArray) = F.lt4 := rfl
  have eA : (⟨⟨[38]⟩⟩ : ByteArray) = F.ampB := rfl
  have eL : (⟨⟨[60]⟩⟩ : ByteArray) = F.ltB := rfl
  cases he : F.emp s
  case true =>
    left
    have hz : s.size = 0 := by rw [F.emp_size] at he; exact of_decide_eq_true he
    refine ⟨(.exit 0, ⟨[(4, vS out)], []⟩), ?_, ?_, by simp, rfl⟩
    · rw [evPlnL]
      simp only [unHsP, preHsP1, unstPln, unstPli, unstPli0, prlPln, prlPli, outPln, outPli, etaCap, etaMch, etaWrd, etaFnd, etaRatio, etaWay, Option.bind_some, List.length_map, unStrs, unInts, unBools, uneL_eIs, unCaps, uneL_eCaps, unMchs, unWrds, unFnds, unRatios, unWays, F.lt, F.le, cond_true, cond_false, Bool.and_true, Bool.true_and, ey, he]
      try rfl
    · simp only [outPln, hz, F.plB]
      rfl
  have hz : s.size ≠ 0 := by rw [F.emp_size] at he; exact of_decide_eq_false he
  obtain ⟨f, hf⟩ : ∃ f, s.size = f + 1 := ⟨s.size - 1, by omega⟩
  have o1 : ∀ k o, 1 ≤ k → F.plB f (s.extract k s.size) o = F.plB (s.extract k s.size).size (s.extract k s.size) o := fun k o hk => plx s o k f hf hk
  cases h5 : F.hasP s F.amp5
  case true =>
    right
    have hl := F.hasP_le h5
    have hl : 5 ≤ s.size := hl
    have e5 := F.ext_sz s 5
    have eo : (out ++ F.ampB).size = out.size + 1 := by rw [ByteArray.size_append]; rfl
    refine ⟨(s.extract 5 s.size, out ++ F.ampB), ?_, rfl, by simp only; omega, by simp only; omega, ?_⟩
    · rw [evPlnL]
      simp only [unHsP, preHsP1, unstPln, unstPli, unstPli0, prlPln, prlPli, outPln, outPli, etaCap, etaMch, etaWrd, etaFnd, etaRatio, etaWay, Option.bind_some, List.length_map, unStrs, unInts, unBools, uneL_eIs, unCaps, uneL_eCaps, unMchs, unWrds, unFnds, unRatios, unWays, F.lt, F.le, cond_true, cond_false, Bool.and_true, Bool.true_and, ey, he, ea, el, eA, eL, h5, Bool.not_false]
      rw [ble_t (show out.size + F.ampB.size ≤ 9223372036854775807 by have : F.ampB.size = 1 := rfl; omega), ble_t hl, ble_t (Nat.le_refl _)]
      rfl
    · simp only [outPln, hf, F.plB, he, h5, cond_true, cond_false]
      rw [← hf, o1 5 _ (by omega)]
  cases h4 : F.hasP s F.lt4
  case true =>
    right
    have hl := F.hasP_le h4
    have hl : 4 ≤ s.size := hl
    have e5 := F.ext_sz s 4
    have eo : (out ++ F.ltB).size = out.size + 1 := by rw [ByteArray.size_append]; rfl
    refine ⟨(s.extract 4 s.size, out ++ F.ltB), ?_, rfl, by simp only; omega, by simp only; omega, ?_⟩
    · rw [evPlnL]
      simp only [unHsP, preHsP1, unstPln, unstPli, unstPli0, prlPln, prlPli, outPln, outPli, etaCap, etaMch, etaWrd, etaFnd, etaRatio, etaWay, Option.bind_some, List.length_map, unStrs, unInts, unBools, uneL_eIs, unCaps, uneL_eCaps, unMchs, unWrds, unFnds, unRatios, unWays, F.lt, F.le, cond_true, cond_false, Bool.and_true, Bool.true_and, ey, he, ea, el, eA, eL, h5, h4, Bool.not_false]
      rw [ble_t (show out.size + F.ltB.size ≤ 9223372036854775807 by have : F.ltB.size = 1 := rfl; omega), ble_t hl, ble_t (Nat.le_refl _)]
      rfl
    · simp only [outPln, hf, F.plB, he, h5, h4, cond_true, cond_false]
      rw [← hf, o1 4 _ (by omega)]
  obtain ⟨b, r, hs⟩ : ∃ b r, F.bs s = b :: r := by
    cases h : F.bs s with
    | nil => have := F.bs_len s; rw [h] at this; simp at this; omega
    | cons b r => exact ⟨b, r, rfl⟩
  have h0 : (F.bs s)[0]? = some b := by rw [hs]; rfl
  have hsg : F.sgn s = (b == 38 || b == 60) := by unfold F.sgn; rw [h0]
  cases hg : F.sgn s
  case true =>
    left
    rw [hg] at hsg
    refine ⟨(.ret, ⟨[(3, vB false), (2, vS ⟨⟨[]⟩⟩)], []⟩), ?_, ?_, by simp, rfl⟩
    · rw [evPlnL]
      rw [F.bs_get, h0]
      simp only [unHsP, preHsP1, unstPln, unstPli, unstPli0, prlPln, prlPli, outPln, outPli, etaCap, etaMch, etaWrd, etaFnd, etaRatio, etaWay, Option.bind_some, List.length_map, unStrs, unInts, unBools, uneL_eIs, unCaps, uneL_eCaps, unMchs, unWrds, unFnds, unRatios, unWays, F.lt, F.le, cond_true, cond_false, Bool.and_true, Bool.true_and, ey, he, ea, el, eA, eL, h5, h4, F.eq38, F.eq60, Bool.not_false]
      cases h1 : b == 38
      · rw [h1, Bool.false_or] at hsg
        rw [← hsg]; rfl
      · rfl
    · simp only [outPln, hf, F.plB, he, h5, h4, hg, cond_true, cond_false]
      rfl
  right
  rw [hg] at hsg
  have hrl := F.runN_le ((F.bs s).drop 1)
  rw [List.length_drop, F.bs_len] at hrl
  obtain ⟨n, hn⟩ : ∃ n, 1 + F.runN ((F.bs s).drop 1) = n := ⟨_, rfl⟩
  have hmem : ∀ x ∈ (F.bs s).take n, x ≠ 38 ∧ x ≠ 60 := by
    intro x hx
    rw [← hn, Nat.add_comm, hs, List.take_succ_cons, List.mem_cons] at hx
    rcases hx with rfl | hx
    · have := hsg.symm; simp only [Bool.or_eq_false_iff, beq_eq_false_iff_ne] at this; exact this
    · exact F.runN_mem r x hx
  have en := F.ext_sz s n
  have e0 : (s.extract 0 n).size = n := by rw [ByteArray.size_extract]; omega
  have eo : (out ++ s.extract 0 n).size = out.size + n := by rw [ByteArray.size_append, e0]
  have hrun := F.plB_run n s out s.size (by omega) hmem (Nat.le_refl _)
  refine ⟨(s.extract n s.size, out ++ s.extract 0 n), ?_, rfl, by simp only; omega, by simp only; omega, ?_⟩
  · rw [evPlnL]
    rw [F.bs_get, h0]
    have g1 : (b == 38) = false := by cases h1 : b == 38; rfl; rw [h1] at hsg; cases hsg
    have g2 : (b == 60) = false := by cases h1 : b == 60; rfl; rw [h1, Bool.or_true] at hsg; cases hsg
    simp only [unHsP, preHsP1, unstPln, unstPli, unstPli0, prlPln, prlPli, outPln, outPli, etaCap, etaMch, etaWrd, etaFnd, etaRatio, etaWay, Option.bind_some, List.length_map, unStrs, unInts, unBools, uneL_eIs, unCaps, uneL_eCaps, unMchs, unWrds, unFnds, unRatios, unWays, F.lt, F.le, cond_true, cond_false, Bool.and_true, Bool.true_and, ey, he, ea, el, eA, eL, h5, h4, F.eq38, F.eq60, hn, g1, g2, Bool.not_false, Bool.not_true]
    rw [decide_eq_true (show s.size ≤ 4294967280 by omega), ble_t (Nat.zero_le n), ble_t (show n ≤ s.size by omega), ble_t (show out.size + (s.extract 0 n).size ≤ 9223372036854775807 by omega), ble_t (Nat.le_refl s.size)]
    rfl
  · have := F.plB_fuel s.size (s.extract n s.size).size (s.extract n s.size) (out ++ s.extract 0 n) (by omega) (Nat.le_refl _)
    simp only [outPln]
    rw [hrun, this]

theorem evPln (s : ByteArray) : (runF enPln false Tryz.f37 [vS s]).val =
  Option.bind (unenc stPln1 (St.mk [(4, (vS (ByteArray.mk (Array.mk [])))), (0, (vS s))] [])) fun (z : ByteArray × ByteArray) => bif decide (ByteArray.size z.fst +
  ByteArray.size z.snd ≤ (4294967280 : Nat)) && true then bif F.found (F.plB (ByteArray.size z.fst) z.fst z.snd) then some (AV.tup [(vS (F.got (F.plB (ByteArray.size z.fst)
  z.fst z.snd) (ByteArray.mk (Array.mk [])))), (vB true)], []) else some (AV.tup [(vS (ByteArray.mk (Array.mk []))), (vB false)], []) else none := (runFR_val).symm.trans (by kernel_rfl)

def encPln1 (s : ByteArray) : List AV := [vS s]

def encPln (a : ByteArray) : List AV := encPln1 a

theorem encPln_inj (a a' : ByteArray) (h : encPln a = encPln a') : a = a' := by
  simp only [encPln, encPln1] at h
  try simp [strs_inj, ints_inj, bools_inj, eL_eIs_inj, eCaps_inj, eCap_iff, eL_eCaps_inj, eMchs_inj, eMch_iff, eWrds_inj, eWrd_iff, eFnds_inj, eFnd_iff, eRatios_inj, eRatio_iff, eWays_inj, eWay_iff] at h
  grind

theorem unPln (s : ByteArray) : unenc encPln ([(vS s)]) = some (s) := unenc_of encPln_inj (s) rfl

def resPln1 (s : ByteArray) : AV × Heap := (.tup [vS (F.plV s), vB (F.plG s)], [])

def prePln1 (s : ByteArray) : Bool := F.small s

noncomputable def oPln : Orc := orc 37 true encPln (fun a => prePln1 a) fun a => resPln1 a

theorem okPln : OrcOK Tryz.prog noG oPln := by
  refine mk_ok Tryz.f37 (keep := false) (by kernel_rfl) (by kernel_rfl) enPln_ok mixed (two_loops (x0 := loopN Tryz.f37 0) (x1 := loopN Tryz.f37 1) (by kernel_rfl) (lpo_ok ?_) (lpo_ok ?_)) (by first | exact fun _ _ => ⟨rfl, rfl⟩ | (intro h; cases h)) ?_
  · rintro ⟨s, out⟩ hp
    exact lpPln_ok s out hp
  · rintro ⟨s, out, n⟩ hp
    exact lpPli_ok s out n hp
  rintro s hpre hok
  show (runF enPln false _ (encPln1 _)).val = some (resPln1 _)
  unfold encPln1 resPln1
  rw [evPln]
  simp only [prePln1, F.small, decide_eq_true_eq] at hpre
  have e0 : s.size + (⟨⟨[]⟩⟩ : ByteArray).size ≤ 4294967280 := hpre
  have er : F.plB s.size s ⟨⟨[]⟩⟩ = F.plR s := rfl
  simp only [unHsP, preHsP1, unstPln, unstPli, unstPli0, prlPln, prlPli, outPln, outPli, etaCap, etaMch, etaWrd, etaFnd, etaRatio, etaWay, Option.bind_some, List.length_map, unStrs, unInts, unBools, uneL_eIs, unCaps, uneL_eCaps, unMchs, unWrds, unFnds, unRatios, unWays, F.lt, F.le, cond_true, cond_false, Bool.and_true, Bool.true_and, F.plV, F.plG, decide_eq_true e0, er]
  cases F.plR s <;> rfl

end M
end Go.Proofs.YthcfbeckhgngiaaGreatDoor
