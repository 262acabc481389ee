/- What is proved here: what the readers of lines of times return on plain data, of both (no statement of the seat). -/
import Derived.Test.YthcfbeckhgngiaaGreatDoorC115
namespace Go.Proofs.YthcfbeckhgngiaaGreatDoor
open Go Go.RowKit
set_option linter.unusedVariables false
set_option linter.unusedSimpArgs false

theorem F.rdT_size (s p : ByteArray) : (F.rdT s p).2.1.size ≤ s.size := by
  unfold F.rdT
  cases (decide (s.size < 12) || !F.found (F.tmS s p))
  · exact F.ext_size _ _ _
  · exact Nat.zero_le _

theorem F.cutP_size (s p : ByteArray) : (F.cutP s p).1.size ≤ s.size := by
  unfold F.cutP
  cases F.hasP s p
  · exact Nat.le_refl _
  · exact F.ext_size _ _ _

theorem F.small_le {a b : ByteArray} (h : a.size ≤ b.size) (hb : b.size ≤ 4294967280) : F.small a = true := decide_eq_true (Nat.le_trans h hb)

theorem F.numL_bound : ∀ {l : List UInt8} {n m : Int} {k : Nat}, 0 ≤ n → n + 1 ≤ 10 ^ k → F.numL l n = some m → 0 ≤ m ∧ m + 1 ≤ 10 ^ (k + l.length)
  | [], n, m, k, h1, h2, h => by
    simp only [F.numL, Option.some.injEq] at h
    subst h; exact ⟨h1, h2⟩
  | c :: r, n, m, k, h1, h2, h => by
    rw [F.numL] at h
    have e : k + (c :: r).length = (k + 1) + r.length := by simp; omega
    rw [e]
    have hp : (10 : Int) ^ (k + 1) = 10 * 10 ^ k := by rw [Int.pow_succ, Int.mul_comm]
    cases hd : F.digB c
    · rw [hd] at h; cases h
    · rw [hd] at h
      simp only [cond_true] at h
      obtain ⟨g1, g2⟩ := F.digB_t hd
      refine F.numL_bound (k := k + 1) (by omega) ?_ h
      rw [hp]; omega

theorem F.dgs_bound (s : ByteArray) (many most : Int) (hm : many ≤ 3) : 0 ≤ (F.dgs s many most).1 ∧ (F.dgs s many most).1 ≤ 999 := by
  unfold F.dgs
  by_cases h : (s.size : Int) = many
  · have e : ((s.size : Int) != many) = false := by simp [h]
    rw [e, Bool.false_or]
    cases ho : F.numL (F.bs s) 0 with
    | none => exact ⟨Int.le_refl _, by show (0 : Int) ≤ 999; decide⟩
    | some n =>
      obtain ⟨h0, hb⟩ := F.numL_bound (k := 0) (Int.le_refl 0) (by decide) ho
      rw [F.bs_len] at hb
      have hle : (10 : Int) ^ (0 + s.size) ≤ 10 ^ 3 := by
        have : 0 + s.size ≤ 3 := by omega
        exact_mod_cast Nat.pow_le_pow_right (by omega) this
      have hle : (10 : Int) ^ (0 + s.size) ≤ 1000 := hle
      simp only [F.found, F.got, Option.isSome_some, Option.getD_some, Bool.not_true, cond_false]
      omega
  · have e : ((s.size : Int) != many) = true := by simp [h]
    rw [e]
    exact ⟨Int.le_refl _, by show (0 : Int) ≤ 999; decide⟩

namespace M

noncomputable def enRCl : Env := envH ty noG lks [oRDg] [] [] []

theorem enRCl_ok : EnvOK Tryz.prog enRCl := by
  refine envH_ok lks_ok ty_ok ?_ ?_
  · simp only [List.forall_mem_cons]
    exact ⟨okRDg, by simp⟩
  · simp

theorem evRCl (s : ByteArray) (p : ByteArray) : (runF enRCl false Tryz.f39 [vS s, vS p]).val =
  bif !(↑(ByteArray.size s) : Int) != (12 : Int) then bif Nat.ble (3 : Nat) (ByteArray.size s) then bif !!ByteArray.toList (ByteArray.extract s (2 : Nat) (3 : Nat)) ==
  ByteArray.toList (ByteArray.mk (Array.mk [(58 : UInt8)])) then bif Nat.ble (6 : Nat) (ByteArray.size s) then bif !!ByteArray.toList (ByteArray.extract s (5 : Nat) (6 :
  Nat)) == ByteArray.toList (ByteArray.mk (Array.mk [(58 : UInt8)])) then bif Nat.ble (9 : Nat) (ByteArray.size s) then bif !ByteArray.toList (ByteArray.extract s (8 : Nat)
  (9 : Nat)) == ByteArray.toList p then some (AV.tup [(vI (0 : Int)), (vB false)], []) else bif Nat.ble (2 : Nat) (ByteArray.size s) then Option.bind (unenc encRDg [(vS
  (ByteArray.extract s (0 : Nat) (2 : Nat))), (vI (2 : Int)), (vI (99 : Int))]) fun (z : ByteArray × Int × Int) => bif F.le (0 : Int) z.snd.fst && F.le z.snd.fst (9 : Int)
  then bif Nat.ble (5 : Nat) (ByteArray.size s) then Option.bind (unenc encRDg [(vS (ByteArray.extract s (3 : Nat) (5 : Nat))), (vI (2 : Int)), (vI (59 : Int))]) fun (z_1 :
  ByteArray × Int × Int) => bif F.le (0 : Int) z_1.snd.fst && F.le z_1.snd.fst (9 : Int) then bif Nat.ble (8 : Nat) (ByteArray.size s) then Option.bind (unenc encRDg [(vS
  (ByteArray.extract s (6 : Nat) (8 : Nat))), (vI (2 : Int)), (vI (59 : Int))]) fun (z_2 : ByteArray × Int × Int) => bif F.le (0 : Int) z_2.snd.fst && F.le z_2.snd.fst (9 :
  Int) then bif Nat.ble (9 : Nat) (ByteArray.size s) && Nat.ble (ByteArray.size s) (ByteArray.size s) then Option.bind (unenc encRDg [(vS (ByteArray.extract s (9 : Nat)
  (ByteArray.size s))), (vI (3 : Int)), (vI (999 : Int))]) fun (z_3 : ByteArray × Int × Int) => bif F.le (0 : Int) z_3.snd.fst && F.le z_3.snd.fst (9 : Int) then some
  (AV.tup [(vI (IntKind.wrap IntKind.i64 (IntKind.wrap IntKind.i64 (IntKind.wrap IntKind.i64 (IntKind.wrap IntKind.i64 (IntKind.wrap IntKind.i64 (IntKind.wrap IntKind.i64
  ((F.dgs z.fst z.snd.fst z.snd.snd).fst * (60 : Int)) + (F.dgs z_1.fst z_1.snd.fst z_1.snd.snd).fst) * (60 : Int)) + (F.dgs z_2.fst z_2.snd.fst z_2.snd.snd).fst) * (1000 :
  Int)) + (F.dgs z_3.fst z_3.snd.fst z_3.snd.snd).fst))), (vB (bif bif bif (F.dgs z.fst z.snd.fst z.snd.snd).snd then (F.dgs z_1.fst z_1.snd.fst z_1.snd.snd).snd else false
  then (F.dgs z_2.fst z_2.snd.fst z_2.snd.snd).snd else false then (F.dgs z_3.fst z_3.snd.fst z_3.snd.snd).snd else false))], []) else none else none else none else none
  else none else none else none else none else none else some (AV.tup [(vI (0 : Int)), (vB false)], []) else none else some (AV.tup [(vI (0 : Int)), (vB false)], []) else
  none else some (AV.tup [(vI (0 : Int)), (vB false)], []) := (runFR_val).symm.trans (by kernel_rfl)

def encRCl1 (s : ByteArray) (p : ByteArray) : List AV := [vS s, vS p]

def encRCl (a : ByteArray × ByteArray) : List AV := encRCl1 a.1 a.2

theorem encRCl_inj (a a' : ByteArray × ByteArray) (h : encRCl a = encRCl a') : a = a' := by
  simp only [encRCl, encRCl1] at h
  try simp [strs_inj, ints_inj, bools_inj, eL_eIs_inj, eCaps_inj, eCap_iff, eL_eCaps_inj, eMchs_inj, eMch_iff, eWrds_inj, eWrd_iff, eFnds_inj, eFnd_iff, eRatios_inj, eRatio_iff, eWays_inj, eWay_iff] at h
  grind

theorem unRCl (s : ByteArray) (p : ByteArray) : unenc encRCl ([(vS s), (vS p)]) = some (s, p) := unenc_of encRCl_inj (s, p) rfl

def resRCl1 (s : ByteArray) (p : ByteArray) : AV × Heap := (.tup [vI (F.rcl s p).1, vB (F.rcl s p).2], [])

def preRCl1 (s : ByteArray) (p : ByteArray) : Bool := F.small s

noncomputable def oRCl : Orc := orc 39 true encRCl (fun a => preRCl1 a.1 a.2) fun a => resRCl1 a.1 a.2

theorem okRCl : OrcOK Tryz.prog noG oRCl := by
  refine mk_ok Tryz.f39 (keep := false) (by kernel_rfl) (by kernel_rfl) enRCl_ok mixed (no_loops (by kernel_rfl)) (by first | exact fun _ _ => ⟨rfl, rfl⟩ | (intro h; cases h)) ?_
  rintro ⟨s, p⟩ hpre hok
  show (runF enRCl false _ (encRCl1 _ _)).val = some (resRCl1 _ _)
  unfold encRCl1 resRCl1
  rw [evRCl]
  simp only [preRCl1, F.small, decide_eq_true_eq] at hpre
  simp only [unRDg, preRDg1, etaCap, etaMch, etaWrd, etaFnd, etaRatio, etaWay, Option.bind_some, List.length_map, unStrs, unInts, unBools, uneL_eIs, unCaps, uneL_eCaps, unMchs, unWrds, unFnds, unRatios, unWays, F.lt, F.le, cond_true, cond_false, Bool.and_true, Bool.true_and, F.rcl, F.rclB]
  by_cases h12 : (s.size : Int) = 12
  case neg =>
    have e : ((s.size : Int) != 12) = true := by simp [h12]
    simp only [e, Bool.not_true, cond_false, Bool.true_or, cond_true]
  have hs : s.size = 12 := by omega
  have e : ((s.size : Int) != 12) = false := by simp [h12]
  have e1 : ∀ x y : ByteArray, (x.toList == y.toList) = F.seq x y := fun _ _ => rfl
  have e2 : ∀ n, n ≤ 12 → Nat.ble n 12 = true := fun n h => ble_t h
  have e3 : decide ((0 : Int) ≤ 2) = true := rfl
  have e4 : decide ((2 : Int) ≤ 9) = true := rfl
  have e5 : decide ((0 : Int) ≤ 3) = true := rfl
  have e6 : decide ((3 : Int) ≤ 9) = true := rfl
  simp only [e, e1, e3, e4, e5, e6, ble_t (show 2 ≤ s.size by omega), ble_t (show 3 ≤ s.size by omega), ble_t (show 5 ≤ s.size by omega), ble_t (show 6 ≤ s.size by omega), ble_t (show 8 ≤ s.size by omega), ble_t (show 9 ≤ s.size by omega), ble_t (Nat.le_refl s.size), Bool.not_false, cond_true, Bool.false_or, Bool.and_self]
  cases F.seq (s.extract 2 3) ⟨⟨[58]⟩⟩
  · rfl
  cases F.seq (s.extract 5 6) ⟨⟨[58]⟩⟩
  · rfl
  cases F.seq (s.extract 8 9) p
  · rfl
  have b1 := F.dgs_bound (s.extract 0 2) 2 99 (by decide)
  have b2 := F.dgs_bound (s.extract 3 5) 2 59 (by decide)
  have b3 := F.dgs_bound (s.extract 6 8) 2 59 (by decide)
  have b4 := F.dgs_bound (s.extract 9 s.size) 3 999 (by decide)
  generalize F.dgs (s.extract 0 2) 2 99 = d1 at *
  generalize F.dgs (s.extract 3 5) 2 59 = d2 at *
  generalize F.dgs (s.extract 6 8) 2 59 = d3 at *
  generalize F.dgs (s.extract 9 s.size) 3 999 = d4 at *
  obtain ⟨x1, y1⟩ := d1
  obtain ⟨x2, y2⟩ := d2
  obtain ⟨x3, y3⟩ := d3
  obtain ⟨x4, y4⟩ := d4
  simp only at b1 b2 b3 b4
  simp only [Bool.not_true, Bool.or_self, cond_false, cond_true]
  rw [wrap_id (n := x1 * 60) (by omega) (by omega), wrap_id (n := x1 * 60 + x2) (by omega) (by omega), wrap_id (n := (x1 * 60 + x2) * 60) (by omega) (by omega), wrap_id (n := (x1 * 60 + x2) * 60 + x3) (by omega) (by omega), wrap_id (n := ((x1 * 60 + x2) * 60 + x3) * 1000) (by omega) (by omega), wrap_id (by omega) (by omega)]
  cases y1 <;> cases y2 <;> cases y3 <;> cases y4 <;> rfl

noncomputable def enRtp : Env := envH ty noG lks [oRdT, oCuPo] [] [] []

theorem enRtp_ok : EnvOK Tryz.prog enRtp := by
  refine envH_ok lks_ok ty_ok ?_ ?_
  · simp only [List.forall_mem_cons]
    exact ⟨okRdT, okCuPo, by simp⟩
  · simp

theorem evRtp (s : ByteArray) (p : ByteArray) : (runH enRtp [] Tryz.f34 [vS s, vS p, .ptr 900 0 0] [(900, ⟨true, 0, 0, [[vI 0, vI 0, .e0, vI 0, vB false, vB false]]⟩)]).val =
  Option.bind (unenc encRdT [(vS s), (vS p)]) fun (z : ByteArray × ByteArray) => bif F.small z.fst && decide (ByteArray.size z.snd = (1 : Nat)) then Option.bind (unenc
  encCuPo [(vS (F.rdT z.fst z.snd).snd.fst), (vS (ByteArray.mk (Array.mk [(32 : UInt8), (45 : UInt8), (45 : UInt8), (62 : UInt8), (32 : UInt8)])))]) fun (z_1 : ByteArray ×
  ByteArray) => bif F.small z_1.fst && decide (ByteArray.size z_1.snd ≤ (100 : Nat)) then Option.bind (unenc encRdT [(vS (F.cutP z_1.fst z_1.snd).fst), (vS p)]) fun (z_2 :
  ByteArray × ByteArray) => bif F.small z_2.fst && decide (ByteArray.size z_2.snd = (1 : Nat)) then some (AV.tup [(vS (F.rdT z_2.fst z_2.snd).snd.fst), (vB (bif bif (F.rdT
  z.fst z.snd).snd.snd then (F.cutP z_1.fst z_1.snd).snd else false then (F.rdT z_2.fst z_2.snd).snd.snd else false))], [(900, Blk.mk true 0 0 [[(vI (F.rdT z.fst
  z.snd).fst), (vI (F.rdT z_2.fst z_2.snd).fst), AV.e0, (vI (0 : Int)), (vB false), (vB false)]])], []) else none else none else none := (runHR_val).symm.trans (by kernel_rfl)

def encRtp1 (s : ByteArray) (p : ByteArray) : List AV × Heap := ([vS s, vS p, .ptr 900 0 0], [(900, ⟨true, 0, 0, [[vI 0, vI 0, .e0, vI 0, vB false, vB false]]⟩)])

def encRtp (a : ByteArray × ByteArray) : List AV × Heap := encRtp1 a.1 a.2

theorem encRtp_inj (a a' : ByteArray × ByteArray) (h : encRtp a = encRtp a') : a = a' := by
  simp only [encRtp, encRtp1] at h
  try simp [strs_inj, ints_inj, bools_inj, eL_eIs_inj, eCaps_inj, eCap_iff, eL_eCaps_inj, eMchs_inj, eMch_iff, eWrds_inj, eWrd_iff, eFnds_inj, eFnd_iff, eRatios_inj, eRatio_iff, eWays_inj, eWay_iff] at h
  grind

theorem unRtp (s : ByteArray) (p : ByteArray) : unenc encRtp (([(vS s), (vS p), .ptr 900 0 0], [(900, Blk.mk true 0 0 [[(vI (0 : Int)), (vI (0 : Int)), AV.e0, (vI (0 : Int)), (vB false), (vB false)]])])) = some (s, p) := unenc_of encRtp_inj (s, p) rfl

def resRtp1 (s : ByteArray) (p : ByteArray) : AV × Heap × List Nat := (.tup [vS (F.rtP s p).2.2.1, vB (F.rtP s p).2.2.2], [(900, ⟨true, 0, 0, [[vI (F.rtP s p).1, vI (F.rtP s p).2.1, .e0, vI 0, vB false, vB false]]⟩)], [])

def preRtp1 (s : ByteArray) (p : ByteArray) : Bool := F.small s && decide (p.size = 1)

noncomputable def oRtp : OrcH := orcH 34 encRtp (fun a => preRtp1 a.1 a.2) fun a => resRtp1 a.1 a.2

theorem okRtp : OrcHOK Tryz.prog noG oRtp := by
  refine mkH_ok (mv := []) Tryz.f34 (by kernel_rfl) (by kernel_rfl) enRtp_ok mixed (no_loops (by kernel_rfl)) ?_
  rintro ⟨s, p⟩ hpre hok hokh
  show (runH enRtp [] _ (encRtp1 _ _).1 (encRtp1 _ _).2).val = some (resRtp1 _ _)
  unfold encRtp1 resRtp1
  rw [evRtp]
  simp only [preRtp1, F.small, Bool.and_eq_true, decide_eq_true_eq] at hpre
  obtain ⟨h1, h2⟩ := hpre
  simp only [unRdT, unCuPo, preRdT1, preCuPo1, etaCap, etaMch, etaWrd, etaFnd, etaRatio, etaWay, Option.bind_some, List.length_map, unStrs, unInts, unBools, uneL_eIs, unCaps, uneL_eCaps, unMchs, unWrds, unFnds, unRatios, unWays, F.lt, F.le, cond_true, cond_false, Bool.and_true, Bool.true_and, F.rtP]
  have ea : (⟨⟨[32, 45, 45, 62, 32]⟩⟩ : ByteArray) = F.arrow := rfl
  have s1 : F.small s = true := decide_eq_true h1
  have s2 : F.small (F.rdT s p).2.1 = true := F.small_le (F.rdT_size s p) h1
  have s3 : F.small (F.cutP (F.rdT s p).2.1 F.arrow).1 = true := F.small_le (Nat.le_trans (F.cutP_size _ _) (F.rdT_size s p)) h1
  have s4 : decide (F.arrow.size ≤ 100) = true := rfl
  rw [ea, s1, s2, s3, s4, decide_eq_true h2]
  cases (F.rdT s p).2.2 <;> cases (F.cutP (F.rdT s p).2.1 F.arrow).2 <;> rfl

noncomputable def enRRt : Env := envH ty noG lks [oRCl] [] [] []

theorem enRRt_ok : EnvOK Tryz.prog enRRt := by
  refine envH_ok lks_ok ty_ok ?_ ?_
  · simp only [List.forall_mem_cons]
    exact ⟨okRCl, by simp⟩
  · simp

theorem evRRt (s : ByteArray) (p : ByteArray) : (runF enRRt false Tryz.f16 [vS s, vS p]).val =
  bif !decide ((↑(ByteArray.size s) : Int) < (29 : Int)) then bif Nat.ble (17 : Nat) (ByteArray.size s) then bif !ByteArray.toList (ByteArray.extract s (12 : Nat) (17 :
  Nat)) == ByteArray.toList (ByteArray.mk (Array.mk [(32 : UInt8), (45 : UInt8), (45 : UInt8), (62 : UInt8), (32 : UInt8)])) then some (AV.tup [AV.agg [(vI (0 : Int)), (vI
  (0 : Int)), AV.sl [], (vI (0 : Int)), (vB false), (vB false)], (vS (ByteArray.mk (Array.mk []))), (vB false)], []) else bif Nat.ble (12 : Nat) (ByteArray.size s) then
  Option.bind (unenc encRCl [(vS (ByteArray.extract s (0 : Nat) (12 : Nat))), (vS p)]) fun (z : ByteArray × ByteArray) => bif F.small z.fst then bif Nat.ble (29 : Nat)
  (ByteArray.size s) then Option.bind (unenc encRCl [(vS (ByteArray.extract s (17 : Nat) (29 : Nat))), (vS p)]) fun (z_1 : ByteArray × ByteArray) => bif F.small z_1.fst then
  bif Nat.ble (29 : Nat) (ByteArray.size s) && Nat.ble (ByteArray.size s) (ByteArray.size s) then some (AV.tup [AV.agg [(vI (F.rcl z.fst z.snd).fst), (vI (F.rcl z_1.fst
  z_1.snd).fst), AV.sl [], (vI (0 : Int)), (vB false), (vB false)], (vS (ByteArray.extract s (29 : Nat) (ByteArray.size s))), (vB (bif (F.rcl z.fst z.snd).snd then (F.rcl
  z_1.fst z_1.snd).snd else false))], []) else none else none else none else none else none else none else some (AV.tup [AV.agg [(vI (0 : Int)), (vI (0 : Int)), AV.sl [],
  (vI (0 : Int)), (vB false), (vB false)], (vS (ByteArray.mk (Array.mk []))), (vB false)], []) := (runFR_val).symm.trans (by kernel_rfl)

def encRRt1 (s : ByteArray) (p : ByteArray) : List AV := [vS s, vS p]

def encRRt (a : ByteArray × ByteArray) : List AV := encRRt1 a.1 a.2

theorem encRRt_inj (a a' : ByteArray × ByteArray) (h : encRRt a = encRRt a') : a = a' := by
  simp only [encRRt, encRRt1] at h
  try simp [strs_inj, ints_inj, bools_inj, eL_eIs_inj, eCaps_inj, eCap_iff, eL_eCaps_inj, eMchs_inj, eMch_iff, eWrds_inj, eWrd_iff, eFnds_inj, eFnd_iff, eRatios_inj, eRatio_iff, eWays_inj, eWay_iff] at h
  grind

theorem unRRt (s : ByteArray) (p : ByteArray) : unenc encRRt ([(vS s), (vS p)]) = some (s, p) := unenc_of encRRt_inj (s, p) rfl

def resRRt1 (s : ByteArray) (p : ByteArray) : AV × Heap := (.tup [.agg [vI (F.rtm s p).1, vI (F.rtm s p).2.1, .sl [], vI 0, vB false, vB false], vS (F.rtm s p).2.2.1, vB (F.rtm s p).2.2.2], [])

def preRRt1 (s : ByteArray) (p : ByteArray) : Bool := F.small s

noncomputable def oRRt : Orc := orc 16 false encRRt (fun a => preRRt1 a.1 a.2) fun a => resRRt1 a.1 a.2

theorem okRRt : OrcOK Tryz.prog noG oRRt := by
  refine mk_ok Tryz.f16 (keep := false) (by kernel_rfl) (by kernel_rfl) enRRt_ok mixed (no_loops (by kernel_rfl)) (by first | exact fun _ _ => ⟨rfl, rfl⟩ | (intro h; cases h)) ?_
  rintro ⟨s, p⟩ hpre hok
  show (runF enRRt false _ (encRRt1 _ _)).val = some (resRRt1 _ _)
  unfold encRRt1 resRRt1
  rw [evRRt]
  simp only [preRRt1, F.small, decide_eq_true_eq] at hpre
  simp only [unRCl, preRCl1, etaCap, etaMch, etaWrd, etaFnd, etaRatio, etaWay, Option.bind_some, List.length_map, unStrs, unInts, unBools, uneL_eIs, unCaps, uneL_eCaps, unMchs, unWrds, unFnds, unRatios, unWays, F.lt, F.le, cond_true, cond_false, Bool.and_true, Bool.true_and, F.rtm, F.rtB]
  have ea : (⟨⟨[32, 45, 45, 62, 32]⟩⟩ : ByteArray) = F.arrow := rfl
  by_cases h29 : s.size < 29
  · have e : decide ((s.size : Int) < 29) = true := decide_eq_true (by omega)
    simp only [e, decide_eq_true h29, Bool.not_true, cond_false, cond_true, Bool.true_or]
  have e : decide ((s.size : Int) < 29) = false := decide_eq_false (by omega)
  have e1 : ∀ x y : ByteArray, (x.toList == y.toList) = F.seq x y := fun _ _ => rfl
  have s1 : F.small (s.extract 0 12) = true := F.small_le (F.ext_size _ _ _) hpre
  have s2 : F.small (s.extract 17 29) = true := F.small_le (F.ext_size _ _ _) hpre
  simp only [e, ea, e1, s1, s2, decide_eq_false h29, ble_t (show 12 ≤ s.size by omega), ble_t (show 17 ≤ s.size by omega), ble_t (show 29 ≤ s.size by omega), ble_t (Nat.le_refl s.size), Bool.not_false, cond_true, Bool.false_or, Bool.and_self]
  cases F.seq (s.extract 12 17) F.arrow
  · simp only [Bool.not_false, Bool.or_true, cond_true, cond_false]
  · simp only [Bool.not_true, Bool.or_false, cond_true, cond_false]
    cases (F.rcl (s.extract 0 12) p).2 <;> simp only [Bool.true_and, Bool.false_and, cond_true, cond_false]

end M
end Go.Proofs.YthcfbeckhgngiaaGreatDoor
