/- What is proved here: the readers of times and marks of the reference, with what they hand back kept as it is (no statement of the seat). -/
import Derived.Test.YthcfbeckhgngiaaGreatDoorC132
namespace Go.Proofs.YthcfbeckhgngiaaGreatDoor
open Go Go.RowKit
set_option linter.unusedVariables false
set_option linter.unusedSimpArgs false

namespace F

theorem indexB_at : ∀ {l : List UInt8} {c : UInt8} {i : Nat}, Lib.indexByte l c = i → l.drop i = c :: l.drop (i + 1)
  | [], c, i, h => by
    have h : (-1 : Int) = i := h
    omega
  | b :: l, c, i, h => by
    unfold Lib.indexByte at h
    split at h
    · rename_i hb
      have : i = 0 := by omega
      subst this
      have hb : b = c := by simpa using hb
      simp [hb]
    · split at h
      · omega
      · rename_i hn
        have hn : Lib.indexByte l c ≠ -1 := by simpa using hn
        cases i with
        | zero =>
          have := Lib.indexByte_ge l c
          omega
        | succ i =>
          have ih := indexB_at (l := l) (c := c) (i := i) (by omega)
          simpa using ih

theorem rst_eq (u : ByteArray) : u.extract (cutH u spB).size u.size = rstP u := by
  have e : bs spB = [32] := rfl
  have hl := bs_len u
  refine bsx ?_
  rw [bs_from]
  unfold rstP cutF
  have hH : (cutH u spB).size = (Lib.cut (bs u) (bs spB)).1.length := by
    show (Lib.cut (bs u) (bs spB)).1.toArray.size = _
    simp
  have hT : bs (cutT u spB) = (Lib.cut (bs u) (bs spB)).2.1 := by
    unfold cutT bs
    simp
  rw [hH, e]
  rw [e] at hT
  by_cases h : 0 ≤ Lib.index (bs u) [32]
  · obtain ⟨i, hi⟩ : ∃ i : Nat, Lib.index (bs u) [32] = i := ⟨(Lib.index (bs u) [32]).toNat, by omega⟩
    have hc : Lib.cut (bs u) [32] = ((bs u).take i, (bs u).drop (i + 1), true) := by
      unfold Lib.cut
      rw [if_pos h, hi]
      rfl
    have hx : Lib.indexByte (bs u) 32 = i := by rw [← Lib.index_one]; exact hi
    have hd := indexB_at hx
    have hle : i ≤ (bs u).length := by
      by_cases hh : i ≤ (bs u).length
      · exact hh
      · rw [List.drop_eq_nil_of_le (by omega)] at hd; cases hd
    rw [hc] at hT ⊢
    simp only [cond_true, List.length_take]
    rw [bs_app, hT, e, Nat.min_eq_left hle, hd]
    rfl
  · have hc : Lib.cut (bs u) [32] = (bs u, [], false) := by
      unfold Lib.cut
      rw [if_neg h]
    rw [hc] at hT ⊢
    simp only [cond_false]
    rw [hT, List.drop_length]

end F

namespace M

theorem evRRh (s : ByteArray) (p : ByteArray) : (runH enRRt [] Tryz.f16 [vS s, vS p] []).val =
  bif !decide ((↑(ByteArray.size s) : Int) < (29 : Int)) then bif Nat.ble (17 : Nat) (ByteArray.size s) then bif !ByteArray.toList (ByteArray.extract s (12 : Nat) (17 :
  Nat)) == ByteArray.toList (ByteArray.mk (Array.mk [(32 : UInt8), (45 : UInt8), (45 : UInt8), (62 : UInt8), (32 : UInt8)])) then some (AV.tup [AV.agg [(vI (0 : Int)), (vI
  (0 : Int)), AV.e0, (vI (0 : Int)), (vB false), (vB false)], (vS (ByteArray.mk (Array.mk []))), (vB false)], [], []) else bif Nat.ble (12 : Nat) (ByteArray.size s) then
  Option.bind (unenc encRCl [(vS (ByteArray.extract s (0 : Nat) (12 : Nat))), (vS p)]) fun (z : ByteArray × ByteArray) => bif F.small z.fst then bif Nat.ble (29 : Nat)
  (ByteArray.size s) then Option.bind (unenc encRCl [(vS (ByteArray.extract s (17 : Nat) (29 : Nat))), (vS p)]) fun (z_1 : ByteArray × ByteArray) => bif F.small z_1.fst then
  bif Nat.ble (29 : Nat) (ByteArray.size s) && Nat.ble (ByteArray.size s) (ByteArray.size s) then some (AV.tup [AV.agg [(vI (F.rcl z.fst z.snd).fst), (vI (F.rcl z_1.fst
  z_1.snd).fst), AV.e0, (vI (0 : Int)), (vB false), (vB false)], (vS (ByteArray.extract s (29 : Nat) (ByteArray.size s))), (vB (bif (F.rcl z.fst z.snd).snd then (F.rcl
  z_1.fst z_1.snd).snd else false))], [], []) else none else none else none else none else none else none else some (AV.tup [AV.agg [(vI (0 : Int)), (vI (0 : Int)), AV.e0,
  (vI (0 : Int)), (vB false), (vB false)], (vS (ByteArray.mk (Array.mk []))), (vB false)], [], []) := (runHR_val).symm.trans (by kernel_rfl)

def encRRh1 (s : ByteArray) (p : ByteArray) : List AV × Heap := ([vS s, vS p], [])

def encRRh (a : ByteArray × ByteArray) : List AV × Heap := encRRh1 a.1 a.2

theorem encRRh_inj (a a' : ByteArray × ByteArray) (h : encRRh a = encRRh a') : a = a' := by
  simp only [encRRh, encRRh1] at h
  try simp [strs_inj, ints_inj, bools_inj, eL_eIs_inj, eCaps_inj, eCap_iff, eL_eCaps_inj, eMchs_inj, eMch_iff, eWrds_inj, eWrd_iff, eFnds_inj, eFnd_iff, eRatios_inj, eRatio_iff, eWays_inj, eWay_iff] at h
  grind

theorem unRRh (s : ByteArray) (p : ByteArray) : unenc encRRh (([(vS s), (vS p)], [])) = some (s, p) := unenc_of encRRh_inj (s, p) rfl

def resRRh1 (s : ByteArray) (p : ByteArray) : AV × Heap × List Nat := (.tup [.agg [vI (F.rtm s p).1, vI (F.rtm s p).2.1, .e0, vI 0, vB false, vB false], vS (F.rtm s p).2.2.1, vB (F.rtm s p).2.2.2], [], [])

def preRRh1 (s : ByteArray) (p : ByteArray) : Bool := F.small s

noncomputable def oRRh : OrcH := orcH 16 encRRh (fun a => preRRh1 a.1 a.2) fun a => resRRh1 a.1 a.2

theorem okRRh : OrcHOK Tryz.prog noG oRRh := by
  refine mkH_ok (mv := []) Tryz.f16 (by kernel_rfl) (by kernel_rfl) enRRt_ok mixed (no_loops (by kernel_rfl)) ?_
  rintro ⟨s, p⟩ hpre hok hokh
  show (runH enRRt [] _ (encRRh1 _ _).1 (encRRh1 _ _).2).val = some (resRRh1 _ _)
  unfold encRRh1 resRRh1
  rw [evRRh]
  simp only [preRRh1, F.small, decide_eq_true_eq] at hpre
  simp only [unRCl, preRCl1, etaCap, etaMch, etaWrd, etaFnd, etaRatio, etaWay, Option.bind_some, List.length_map, unStrs, unInts, unBools, uneL_eIs, unCaps, uneL_eCaps, unMchs, unWrds, unFnds, unRatios, unWays, F.lt, F.le, cond_true, cond_false, Bool.and_true, Bool.true_and, F.rtm, F.rtB]
  have ea : (⟨⟨[32, 45, 45, 62, 32]⟩⟩ : ByteArray) = F.arrow := rfl
  by_cases h29 : s.size < 29
  · have e : decide ((s.size : Int) < 29) = true := decide_eq_true (by omega)
    simp only [e, decide_eq_true h29, Bool.not_true, cond_false, cond_true, Bool.true_or]
  have e : decide ((s.size : Int) < 29) = false := decide_eq_false (by omega)
  have e1 : ∀ x y : ByteArray, (x.toList == y.toList) = F.seq x y := fun _ _ => rfl
  have s1 : F.small (s.extract 0 12) = true := F.small_le (F.ext_size _ _ _) hpre
  have s2 : F.small (s.extract 17 29) = true := F.small_le (F.ext_size _ _ _) hpre
  simp only [e, ea, e1, s1, s2, decide_eq_false h29, ble_t (show 12 ≤ s.size by omega), ble_t (show 17 ≤ s.size by omega), ble_t (show 29 ≤ s.size by omega), ble_t (Nat.le_refl s.size), Bool.not_false, cond_true, Bool.false_or, Bool.and_self]
  cases F.seq (s.extract 12 17) F.arrow
  · simp only [Bool.not_false, Bool.or_true, cond_true, cond_false]
  · simp only [Bool.not_true, Bool.or_false, cond_true, cond_false]
    cases (F.rcl (s.extract 0 12) p).2 <;> simp only [Bool.true_and, Bool.false_and, cond_true, cond_false]


noncomputable def enRMk : Env := envH ty noG lks [oCuPo, oCut, oRNu, oAto] [] [] []

theorem enRMk_ok : EnvOK Tryz.prog enRMk := by
  refine envH_ok lks_ok ty_ok ?_ ?_
  · simp only [List.forall_mem_cons]
    exact ⟨okCuPo, okCut, okRNu, okAto, by simp⟩
  · simp

theorem evRMk (s : ByteArray) (fr : Int) (tt : Int) : (runH enRMk [] Tryz.f17 [.agg [vI fr, vI tt, .e0, vI 0, vB false, vB false], vS s] []).val =
  Option.bind (unenc encCuPo [(vS s), (vS (ByteArray.mk (Array.mk [(32 : UInt8), (108 : UInt8), (105 : UInt8), (110 : UInt8), (101 : UInt8), (58 : UInt8)])))]) fun (z :
  ByteArray × ByteArray) => bif F.small z.fst && decide (ByteArray.size z.snd ≤ (100 : Nat)) then bif (F.cutP z.fst z.snd).snd then Option.bind (unenc encCut [(vS (F.cutP
  z.fst z.snd).fst), (vS (ByteArray.mk (Array.mk [(32 : UInt8)])))]) fun (z_1 : ByteArray × ByteArray) => bif decide (ByteArray.size z_1.fst ≤ (4294967280 : Nat)) then
  Option.bind (unenc encRNu [(vS (F.cutH z_1.fst z_1.snd))]) fun (z_2 : ByteArray) => bif F.small z_2 then bif !!F.isNum z_2 then Option.bind (F.cutH z_1.fst z_1.snd)[(0 :
  Nat)]? fun (z_3 : UInt8) => bif (↑(UInt8.toNat z_3) : Int) == (48 : Int) then some (AV.tup [AV.agg [(vI fr), (vI tt), AV.e0, (vI (0 : Int)), (vB false), (vB false)], (vB
  false)], [], []) else Option.bind (unenc encAto [(vS (F.cutH z_1.fst z_1.snd))]) fun (z_4 : ByteArray) => bif F.isNum z_4 then bif Nat.ble (ByteArray.size (F.cutH z_1.fst
  z_1.snd)) (ByteArray.size (F.cutP z.fst z.snd).fst) && Nat.ble (ByteArray.size (F.cutP z.fst z.snd).fst) (ByteArray.size (F.cutP z.fst z.snd).fst) then Option.bind (unenc
  encCuPo [(vS (ByteArray.extract (F.cutP z.fst z.snd).fst (ByteArray.size (F.cutH z_1.fst z_1.snd)) (ByteArray.size (F.cutP z.fst z.snd).fst))), (vS (ByteArray.mk (Array.mk
  [(32 : UInt8), (98 : UInt8), (101 : UInt8), (102 : UInt8), (111 : UInt8), (114 : UInt8), (101 : UInt8)])))]) fun (z : ByteArray × ByteArray) => bif F.small z.fst && decide
  (ByteArray.size z.snd ≤ (100 : Nat)) then Option.bind (unenc encCuPo [(vS (F.cutP z.fst z.snd).fst), (vS (ByteArray.mk (Array.mk [(32 : UInt8), (97 : UInt8), (102 :
  UInt8), (116 : UInt8), (101 : UInt8), (114 : UInt8)])))]) fun (z_5 : ByteArray × ByteArray) => bif F.small z_5.fst && decide (ByteArray.size z_5.snd ≤ (100 : Nat)) then
  some (AV.tup [AV.agg [(vI fr), (vI tt), AV.e0, (vI (F.ato z_4)), (vB (F.cutP z.fst z.snd).snd), (vB (F.cutP z_5.fst z_5.snd).snd)], (vB (ByteArray.toList (F.cutP z_5.fst
  z_5.snd).fst == ByteArray.toList (ByteArray.mk (Array.mk []))))], [], []) else none else none else none else none else some (AV.tup [AV.agg [(vI fr), (vI tt), AV.e0, (vI
  (0 : Int)), (vB false), (vB false)], (vB false)], [], []) else none else none else Option.bind (unenc encCuPo [(vS s), (vS (ByteArray.mk (Array.mk [(32 : UInt8), (98 :
  UInt8), (101 : UInt8), (102 : UInt8), (111 : UInt8), (114 : UInt8), (101 : UInt8)])))]) fun (z : ByteArray × ByteArray) => bif F.small z.fst && decide (ByteArray.size
  z.snd ≤ (100 : Nat)) then Option.bind (unenc encCuPo [(vS (F.cutP z.fst z.snd).fst), (vS (ByteArray.mk (Array.mk [(32 : UInt8), (97 : UInt8), (102 : UInt8), (116 : UInt8),
  (101 : UInt8), (114 : UInt8)])))]) fun (z_1 : ByteArray × ByteArray) => bif F.small z_1.fst && decide (ByteArray.size z_1.snd ≤ (100 : Nat)) then some (AV.tup [AV.agg [(vI
  fr), (vI tt), AV.e0, (vI (0 : Int)), (vB (F.cutP z.fst z.snd).snd), (vB (F.cutP z_1.fst z_1.snd).snd)], (vB (ByteArray.toList (F.cutP z_1.fst z_1.snd).fst ==
  ByteArray.toList (ByteArray.mk (Array.mk []))))], [], []) else none else none else none := (runHR_val).symm.trans (by kernel_rfl)

def encRMk1 (s : ByteArray) (fr : Int) (tt : Int) : List AV × Heap := ([.agg [vI fr, vI tt, .e0, vI 0, vB false, vB false], vS s], [])

def encRMk (a : ByteArray × Int × Int) : List AV × Heap := encRMk1 a.1 a.2.1 a.2.2

theorem encRMk_inj (a a' : ByteArray × Int × Int) (h : encRMk a = encRMk a') : a = a' := by
  simp only [encRMk, encRMk1] at h
  try simp [strs_inj, ints_inj, bools_inj, eL_eIs_inj, eCaps_inj, eCap_iff, eL_eCaps_inj, eMchs_inj, eMch_iff, eWrds_inj, eWrd_iff, eFnds_inj, eFnd_iff, eRatios_inj, eRatio_iff, eWays_inj, eWay_iff] at h
  grind

theorem unRMk (s : ByteArray) (fr : Int) (tt : Int) : unenc encRMk (([AV.agg [(vI fr), (vI tt), AV.e0, (vI (0 : Int)), (vB false), (vB false)], (vS s)], [])) = some (s, fr, tt) := unenc_of encRMk_inj (s, fr, tt) rfl

def resRMk1 (s : ByteArray) (fr : Int) (tt : Int) : AV × Heap × List Nat := (.tup [.agg [vI fr, vI tt, .e0, vI (F.mkRow s), vB (F.mkBef s), vB (F.mkAft s)], vB (F.mkOk s)], [], [])

def preRMk1 (s : ByteArray) (fr : Int) (tt : Int) : Bool := F.small s

noncomputable def oRMk : OrcH := orcH 17 encRMk (fun a => preRMk1 a.1 a.2.1 a.2.2) fun a => resRMk1 a.1 a.2.1 a.2.2

theorem okRMk : OrcHOK Tryz.prog noG oRMk := by
  refine mkH_ok (mv := []) Tryz.f17 (by kernel_rfl) (by kernel_rfl) enRMk_ok mixed (no_loops (by kernel_rfl)) ?_
  rintro ⟨s, fr, tt⟩ hpre hok hokh
  show (runH enRMk [] _ (encRMk1 _ _ _).1 (encRMk1 _ _ _).2).val = some (resRMk1 _ _ _)
  unfold encRMk1 resRMk1
  rw [evRMk]
  simp only [preRMk1, F.small, decide_eq_true_eq] at hpre
  have eL : (⟨⟨[32, 108, 105, 110, 101, 58]⟩⟩ : ByteArray) = F.lineB := rfl
  have eB : (⟨⟨[32, 98, 101, 102, 111, 114, 101]⟩⟩ : ByteArray) = F.befB := rfl
  have eA : (⟨⟨[32, 97, 102, 116, 101, 114]⟩⟩ : ByteArray) = F.aftB := rfl
  have eS : (⟨⟨[32]⟩⟩ : ByteArray) = F.spB := rfl
  have ey : ∀ y : ByteArray, (y.toList == (⟨⟨[]⟩⟩ : ByteArray).toList) = F.emp y := fun _ => rfl
  have d1 : decide (F.lineB.size ≤ 100) = true := rfl
  have d2 : decide (F.befB.size ≤ 100) = true := rfl
  have d3 : decide (F.aftB.size ≤ 100) = true := rfl
  have s1 : F.small s = true := decide_eq_true hpre
  have hb : ∀ y : ByteArray, y.size ≤ 4294967280 → F.small y = true ∧ F.small (F.cutP y F.befB).1 = true := fun y hy =>
    ⟨decide_eq_true hy, F.small_le (F.cutP_size y F.befB) hy⟩
  have ht := F.cutP_size s F.lineB
  simp only [unCuPo, unCut, unRNu, unAto, preCuPo1, preCut1, preRNu1, preAto1, etaCap, etaMch, etaWrd, etaFnd, etaRatio, etaWay, Option.bind_some, List.length_map, unStrs, unInts, unBools, uneL_eIs, unCaps, uneL_eCaps, unMchs, unWrds, unFnds, unRatios, unWays, F.lt, F.le, cond_true, cond_false, Bool.and_true, Bool.true_and, eL, eB, eA, eS, ey, d1, d2, d3, s1, F.mkOk, F.mkRow, F.mkBef, F.mkAft, F.mk1, F.mkR, F.mkS, F.numOk]
  cases hc : (F.cutP s F.lineB).2
  · obtain ⟨b1, b2⟩ := hb s hpre
    simp only [b2, cond_true, cond_false, Bool.not_false, Bool.true_or, Bool.true_and]
  generalize (F.cutP s F.lineB).1 = u at ht ⊢
  have h1 := F.cutH_size u F.spB
  have hr := F.rst_eq u
  have hrz : (F.rstP u).size ≤ u.size := by rw [← hr]; exact F.ext_size _ _ _
  have k1 : decide (u.size ≤ 4294967280) = true := decide_eq_true (by omega)
  have k2 : F.small (F.cutH u F.spB) = true := F.small_le h1 (by omega)
  obtain ⟨b1, b2⟩ := hb (F.rstP u) (by omega)
  simp only [k1, k2, hr, b1, b2, ble_t h1, ble_t (Nat.le_refl u.size), cond_true, cond_false, Bool.and_self, Bool.not_true, Bool.false_or]
  cases hn : F.isNum (F.cutH u F.spB)
  · simp only [Bool.not_true, Bool.not_false, cond_true, cond_false, Bool.false_and]
  obtain ⟨b, hb0⟩ : ∃ b, (F.bs (F.cutH u F.spB))[0]? = some b := by
    have : 1 ≤ (F.cutH u F.spB).size := by
      unfold F.isNum at hn
      simp only [Bool.and_eq_true, decide_eq_true_eq] at hn
      exact hn.1.2
    exact ⟨_, List.getElem?_eq_getElem (by rw [F.bs_len]; omega)⟩
  have hz : F.zer (F.cutH u F.spB) = ((b.toNat : Int) == 48) := by unfold F.zer; rw [hb0]
  rw [F.bs_get, hb0, hz]
  simp only [Option.bind_some, Bool.not_true, Bool.not_false, cond_true, cond_false, Bool.true_and]
  cases ((b.toNat : Int) == 48)
  · rfl
  · rfl

end M
end Go.Proofs.YthcfbeckhgngiaaGreatDoor
