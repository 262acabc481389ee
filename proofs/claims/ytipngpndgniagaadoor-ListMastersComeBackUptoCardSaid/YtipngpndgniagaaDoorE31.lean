/- What is proved here: what the checks of sounds and streams return on plain data, of the program (no statement of the seat). -/
import Derived.Test.YtipngpndgniagaaDoorE30
namespace Go.Proofs.YtipngpndgniagaaDoor
open Go Go.RowKit
set_option linter.unusedVariables false
set_option linter.unusedSimpArgs false

def F.langB (b : UInt8) : Bool := decide ((b.toNat : Int) = 45) || F.letter b.toNat

def F.langL (l : List UInt8) : Bool := l.all F.langB

def F.lang (s : ByteArray) : Bool := F.langL (F.bs s) && !F.out s.size 2 8

def F.sndTw (s o : Snd) : Bool := F.seq o.group s.group && F.seq o.name s.name

def F.sndDf (s o : Snd) : Bool := F.seq o.group s.group && o.dflt

namespace M


def stLng2 (s : ByteArray) (k : Nat) : St := ⟨[(6, vI k), (5, vI s.size), (0, vS s)], []⟩

def stLng21 (a : ByteArray × Nat) : St := stLng2 a.1 a.2

theorem stLng2_inj (a a' : ByteArray × Nat) (h : stLng21 a = stLng21 a') : a = a' := by
  simp only [stLng21, stLng2] at h
  try simp [strs_inj, ents_inj, eEnt_iff, eLst_iff, eSnds_inj, eSnd_iff, eStrms_inj, eStrm_iff, eMas_iff] at h
  grind

theorem unstLng2 (s : ByteArray) (k : Nat) : unenc stLng21 (St.mk [(6, (vI (↑k : Int))), (5, (vI (↑(ByteArray.size s) : Int))), (0, (vS s))] []) = some (s, k) := unenc_of stLng2_inj (s, k) rfl

theorem unstLng20 (s : ByteArray)  : unenc stLng21 (St.mk [(6, (vI (0 : Int))), (5, (vI (↑(ByteArray.size s) : Int))), (0, (vS s))] []) = some (s, 0) := unenc_of stLng2_inj (s, 0) rfl

def outLng2 (s : ByteArray) (k : Nat) : T (Ex × St) := .ifB (F.langL ((F.bs s).drop k)) (.ret (.exit 0, ⟨[(0, vS s)], []⟩)) (.ret (.ret, ⟨[(2, vB false)], []⟩))

noncomputable def prlLng2 (s : ByteArray) (k : Nat) : Bool := decide (s.size ≤ 9223372036854775807) && decide (k ≤ s.size)

noncomputable def lpLng2 : Nat × (St → T (Ex × St)) := (2, lpo [6, 5, 0] [] stLng21 (fun a => prlLng2 a.1 a.2) fun a => outLng2 a.1 a.2)

noncomputable def enLng2 : Env := envH ty noG lksS [oOut] [] [] [lpLng2]

theorem enLng2_ok : EnvOK Tryd.prog enLng2 := by
  refine envH_ok lksS_ok ty_ok ?_ ?_
  · simp only [List.forall_mem_cons]
    exact ⟨okOut, by simp⟩
  · simp

theorem evLng2L (s : ByteArray) (k : Nat) : ((exec enLng2 (loopN Tryd.f54 0) (stLng2 s k)).bind (lessX ([6, 5, 0], []) ([0], []) ([2], []))).val =
  bif decide ((↑k : Int) < (↑(ByteArray.size s) : Int)) then Option.bind s[k]? fun (z : UInt8) => bif (↑(UInt8.toNat z) : Int) != (45 : Int) then Option.bind s[k]? fun (z_1
  : UInt8) => bif (↑(UInt8.toNat z) : Int) != (45 : Int) && !decide ((↑(UInt8.toNat z_1) : Int) < (97 : Int)) then Option.bind s[k]? fun (z_2 : UInt8) => bif bif
  (↑(UInt8.toNat z) : Int) != (45 : Int) then bif decide ((↑(UInt8.toNat z_1) : Int) < (97 : Int)) then true else decide ((122 : Int) < (↑(UInt8.toNat z_2) : Int)) else
  false then some (Ex.ret, St.mk [(2, (vB false))] []) else some (Ex.normal, St.mk [(6, (vI (IntKind.wrap IntKind.i64 ((↑k : Int) + (1 : Int))))), (5, (vI (↑(ByteArray.size
  s) : Int))), (0, (vS s))] []) else bif (↑(UInt8.toNat z) : Int) != (45 : Int) && !decide ((↑(UInt8.toNat z_1) : Int) < (97 : Int)) then none else bif bif (↑(UInt8.toNat z)
  : Int) != (45 : Int) then true else false then some (Ex.ret, St.mk [(2, (vB false))] []) else some (Ex.normal, St.mk [(6, (vI (IntKind.wrap IntKind.i64 ((↑k : Int) + (1 :
  Int))))), (5, (vI (↑(ByteArray.size s) : Int))), (0, (vS s))] []) else bif (↑(UInt8.toNat z) : Int) != (45 : Int) then none else bif (↑(UInt8.toNat z) : Int) != (45 : Int)
  then none else bif (↑(UInt8.toNat z) : Int) != (45 : Int) then none else bif (↑(UInt8.toNat z) : Int) != (45 : Int) then none else bif (↑(UInt8.toNat z) : Int) != (45 :
  Int) then none else bif (↑(UInt8.toNat z) : Int) != (45 : Int) then none else some (Ex.normal, St.mk [(6, (vI (IntKind.wrap IntKind.i64 ((↑k : Int) + (1 : Int))))), (5,
  (vI (↑(ByteArray.size s) : Int))), (0, (vS s))] []) else some (Ex.exit (0 : Nat), St.mk [(0, (vS s))] []) := by kernel_rfl

theorem lpLng2_ok (s : ByteArray) (k : Nat) (hp : prlLng2 s k = true) : ∀ ex s', (outLng2 s k).val = some (ex, s') → LoopOK enLng2 (loopN Tryd.f54 0) (stLng2 s k) ex s' := by
  simp only [prlLng2, Bool.and_eq_true, decide_eq_true_eq] at hp
  refine loop_all (xs := F.bs s) (st := stLng2 s) (p := F.langB) (n := ([6, 5, 0], [])) (e := ([0], [])) (r := ([2], [])) ?_ ⟨by simp, rfl⟩ ⟨by simp, rfl⟩ (fun _ => rfl) ?_ k (by rw [F.bs_len]; exact hp.2)
  · rw [evLng2L]; rw [F.bs_len]; simp
  · intro k y hy
    have hk : k < s.size := by rw [← F.bs_len]; exact lt_at hy
    rw [evLng2L]
    rw [F.bs_get, hy]
    simp only [unOut, preOut1, unstLng2, unstLng20, prlLng2, outLng2, etaEnt, etaLst, etaSnd, etaStrm, etaMas, Option.bind_some, List.length_map, unStrs, unInts, unBools, unEnts, unItms, unTrns, cond_true, cond_false, Bool.and_true, Bool.true_and, unSnds, unStrms, cast_lt hk, next_at hk hp.1, F.langB, F.letter, stLng2]
    grind

theorem evLng2 (s : ByteArray) : (runF enLng2 false Tryd.f54 [vS s]).val =
  Option.bind (unenc stLng21 (St.mk [(6, (vI (0 : Int))), (5, (vI (↑(ByteArray.size s) : Int))), (0, (vS s))] [])) fun (z : ByteArray × Nat) => bif decide (ByteArray.size
  z.fst ≤ (9223372036854775807 : Nat)) && decide (z.snd ≤ ByteArray.size z.fst) && true then bif F.langL (List.drop z.snd (F.bs z.fst)) then Option.bind (unenc encOut [(vI
  (↑(ByteArray.size z.fst) : Int)), (vI (2 : Int)), (vI (8 : Int))]) fun (z : Int × Int × Int) => some ((vB !F.out z.fst z.snd.fst z.snd.snd), []) else some ((vB false), [])
  else none := by kernel_rfl

def encLng21 (s : ByteArray) : List AV := [vS s]

def encLng2 (a : ByteArray) : List AV := encLng21 a

theorem encLng2_inj (a a' : ByteArray) (h : encLng2 a = encLng2 a') : a = a' := by
  simp only [encLng2, encLng21] at h
  try simp [strs_inj, ents_inj, eEnt_iff, eLst_iff, eSnds_inj, eSnd_iff, eStrms_inj, eStrm_iff, eMas_iff] at h
  grind

theorem unLng2 (s : ByteArray) : unenc encLng2 ([(vS s)]) = some (s) := unenc_of encLng2_inj (s) rfl

def resLng21 (s : ByteArray) : AV × Heap := (vB (F.lang s), [])

def preLng21 (s : ByteArray) : Bool := true

noncomputable def oLng2 : Orc := orc 54 true encLng2 (fun a => preLng21 a) fun a => resLng21 a

theorem okLng2 : OrcOK Tryd.prog noG oLng2 := by
  refine mk_ok Tryd.f54 (keep := false) (by kernel_rfl) (by kernel_rfl) enLng2_ok mixed (one_loop (x0 := loopN Tryd.f54 0) (by kernel_rfl) (lpo_ok ?_)) (by first | exact fun _ _ => ⟨rfl, rfl⟩ | (intro h; cases h)) ?_
  · rintro ⟨s, k⟩ hp
    exact lpLng2_ok s k hp
  rintro s hpre hok
  show (runF enLng2 false _ (encLng21 _)).val = some (resLng21 _)
  unfold encLng21 resLng21
  rw [evLng2]
  have hs := okA_str (hok _ (List.mem_cons_self ..))
  simp only [unOut, preOut1, unstLng2, unstLng20, prlLng2, outLng2, etaEnt, etaLst, etaSnd, etaStrm, etaMas, Option.bind_some, List.length_map, unStrs, unInts, unBools, unEnts, unItms, unTrns, cond_true, cond_false, Bool.and_true, Bool.true_and, unSnds, unStrms, hs, F.lang, List.drop_zero, Nat.zero_le, decide_true]
  cases F.langL (F.bs s) <;> rfl

theorem evCl1 (o : Snd) (s : Snd) : (runF en0 false Tryd.f53 [.agg (eSnd o), .pel (eSnd s) 0]).val =
  some ((vB (bif ByteArray.toList o.group == ByteArray.toList s.group then ByteArray.toList o.name == ByteArray.toList s.name else false)), []) := by kernel_rfl

def encCl11 (o : Snd) (s : Snd) : List AV := [.agg (eSnd o), .pel (eSnd s) 0]

def encCl1 (a : Snd × Snd) : List AV := encCl11 a.1 a.2

theorem encCl1_inj (a a' : Snd × Snd) (h : encCl1 a = encCl1 a') : a = a' := by
  simp only [encCl1, encCl11] at h
  try simp [strs_inj, ents_inj, eEnt_iff, eLst_iff, eSnds_inj, eSnd_iff, eStrms_inj, eStrm_iff, eMas_iff] at h
  grind

theorem unCl1 (o : Snd) (s : Snd) : unenc encCl1 ([AV.agg [(vS o.group), (vS o.name), (vS o.lang), (vB o.dflt), (vS o.uri)], AV.pel [(vS s.group), (vS s.name), (vS s.lang), (vB s.dflt), (vS s.uri)] (0 : Nat)]) = some (o, s) := unenc_of encCl1_inj (o, s) rfl

theorem unCl1w (o_group : ByteArray) (o_name : ByteArray) (o_lang : ByteArray) (o_dflt : Bool) (o_uri : ByteArray) (s_group : ByteArray) (s_name : ByteArray) (s_lang : ByteArray) (s_dflt : Bool) (s_uri : ByteArray) : unenc encCl1 ([AV.agg [(vS o_group), (vS o_name), (vS o_lang), (vB o_dflt), (vS o_uri)], AV.pel [(vS s_group), (vS s_name), (vS s_lang), (vB s_dflt), (vS s_uri)] (0 : Nat)]) = some ((Snd.mk o_group o_name o_lang o_dflt o_uri), (Snd.mk s_group s_name s_lang s_dflt s_uri)) := unenc_of encCl1_inj ((Snd.mk o_group o_name o_lang o_dflt o_uri), (Snd.mk s_group s_name s_lang s_dflt s_uri)) rfl

def resCl11 (o : Snd) (s : Snd) : AV × Heap := (vB (F.sndTw s o), [])

def preCl11 (o : Snd) (s : Snd) : Bool := true

noncomputable def oCl1 : Orc := orc 53 true encCl1 (fun a => preCl11 a.1 a.2) fun a => resCl11 a.1 a.2

theorem okCl1 : OrcOK Tryd.prog noG oCl1 := by
  refine mk_ok Tryd.f53 (keep := false) (by kernel_rfl) (by kernel_rfl) en0_ok mixed (no_loops (by kernel_rfl)) (by first | exact fun _ _ => ⟨rfl, rfl⟩ | (intro h; cases h)) ?_
  rintro ⟨o, s⟩ hpre hok
  show (runF en0 false _ (encCl11 _ _)).val = some (resCl11 _ _)
  unfold encCl11 resCl11
  rw [evCl1]
  simp only [etaEnt, etaLst, etaSnd, etaStrm, etaMas, Option.bind_some, List.length_map, unStrs, unInts, unBools, unEnts, unItms, unTrns, cond_true, cond_false, Bool.and_true, Bool.true_and, unSnds, unStrms, F.sndTw, F.seq]
  cases (o.group.toList == s.group.toList) <;> rfl

theorem evCl2 (o : Snd) (s : Snd) : (runF en0 false Tryd.f55 [.agg (eSnd o), .pel (eSnd s) 0]).val =
  some ((vB (bif ByteArray.toList o.group == ByteArray.toList s.group then o.dflt else false)), []) := by kernel_rfl

def encCl21 (o : Snd) (s : Snd) : List AV := [.agg (eSnd o), .pel (eSnd s) 0]

def encCl2 (a : Snd × Snd) : List AV := encCl21 a.1 a.2

theorem encCl2_inj (a a' : Snd × Snd) (h : encCl2 a = encCl2 a') : a = a' := by
  simp only [encCl2, encCl21] at h
  try simp [strs_inj, ents_inj, eEnt_iff, eLst_iff, eSnds_inj, eSnd_iff, eStrms_inj, eStrm_iff, eMas_iff] at h
  grind

theorem unCl2 (o : Snd) (s : Snd) : unenc encCl2 ([AV.agg [(vS o.group), (vS o.name), (vS o.lang), (vB o.dflt), (vS o.uri)], AV.pel [(vS s.group), (vS s.name), (vS s.lang), (vB s.dflt), (vS s.uri)] (0 : Nat)]) = some (o, s) := unenc_of encCl2_inj (o, s) rfl

theorem unCl2w (o_group : ByteArray) (o_name : ByteArray) (o_lang : ByteArray) (o_dflt : Bool) (o_uri : ByteArray) (s_group : ByteArray) (s_name : ByteArray) (s_lang : ByteArray) (s_dflt : Bool) (s_uri : ByteArray) : unenc encCl2 ([AV.agg [(vS o_group), (vS o_name), (vS o_lang), (vB o_dflt), (vS o_uri)], AV.pel [(vS s_group), (vS s_name), (vS s_lang), (vB s_dflt), (vS s_uri)] (0 : Nat)]) = some ((Snd.mk o_group o_name o_lang o_dflt o_uri), (Snd.mk s_group s_name s_lang s_dflt s_uri)) := unenc_of encCl2_inj ((Snd.mk o_group o_name o_lang o_dflt o_uri), (Snd.mk s_group s_name s_lang s_dflt s_uri)) rfl

def resCl21 (o : Snd) (s : Snd) : AV × Heap := (vB (F.sndDf s o), [])

def preCl21 (o : Snd) (s : Snd) : Bool := true

noncomputable def oCl2 : Orc := orc 55 true encCl2 (fun a => preCl21 a.1 a.2) fun a => resCl21 a.1 a.2

theorem okCl2 : OrcOK Tryd.prog noG oCl2 := by
  refine mk_ok Tryd.f55 (keep := false) (by kernel_rfl) (by kernel_rfl) en0_ok mixed (no_loops (by kernel_rfl)) (by first | exact fun _ _ => ⟨rfl, rfl⟩ | (intro h; cases h)) ?_
  rintro ⟨o, s⟩ hpre hok
  show (runF en0 false _ (encCl21 _ _)).val = some (resCl21 _ _)
  unfold encCl21 resCl21
  rw [evCl2]
  simp only [etaEnt, etaLst, etaSnd, etaStrm, etaMas, Option.bind_some, List.length_map, unStrs, unInts, unBools, unEnts, unItms, unTrns, cond_true, cond_false, Bool.and_true, Bool.true_and, unSnds, unStrms, F.sndDf, F.seq]
  cases (o.group.toList == s.group.toList) <;> rfl

theorem evCl3 (o : Strm) (s : Strm) : (runF en0 false Tryd.f58 [.agg (eStrm o), .pel (eStrm s) 0]).val =
  some ((vB (ByteArray.toList o.name == ByteArray.toList s.name)), []) := by kernel_rfl

def encCl31 (o : Strm) (s : Strm) : List AV := [.agg (eStrm o), .pel (eStrm s) 0]

def encCl3 (a : Strm × Strm) : List AV := encCl31 a.1 a.2

theorem encCl3_inj (a a' : Strm × Strm) (h : encCl3 a = encCl3 a') : a = a' := by
  simp only [encCl3, encCl31] at h
  try simp [strs_inj, ents_inj, eEnt_iff, eLst_iff, eSnds_inj, eSnd_iff, eStrms_inj, eStrm_iff, eMas_iff] at h
  grind

theorem unCl3 (o : Strm) (s : Strm) : unenc encCl3 ([AV.agg [(vS o.name), (vS o.uri), (vI o.mean), (vI o.peak), (vI o.width), (vI o.height), (vS o.sound)], AV.pel [(vS s.name), (vS s.uri), (vI s.mean), (vI s.peak), (vI
  s.width), (vI s.height), (vS s.sound)] (0 : Nat)]) = some (o, s) := unenc_of encCl3_inj (o, s) rfl

theorem unCl3w (o_name : ByteArray) (o_uri : ByteArray) (o_mean : Int) (o_peak : Int) (o_width : Int) (o_height : Int) (o_sound : ByteArray) (s_name : ByteArray) (s_uri : ByteArray) (s_mean : Int) (s_peak : Int) (s_width : Int) (s_height : Int) (s_sound : ByteArray) : unenc encCl3 ([AV.agg [(vS o_name), (vS o_uri), (vI o_mean), (vI o_peak), (vI o_width), (vI o_height), (vS o_sound)], AV.pel [(vS s_name), (vS s_uri), (vI s_mean), (vI s_peak), (vI
  s_width), (vI s_height), (vS s_sound)] (0 : Nat)]) = some ((Strm.mk o_name o_uri o_mean o_peak o_width o_height o_sound), (Strm.mk s_name s_uri s_mean s_peak s_width s_height s_sound)) := unenc_of encCl3_inj ((Strm.mk o_name o_uri o_mean o_peak o_width o_height o_sound), (Strm.mk s_name s_uri s_mean s_peak s_width s_height s_sound)) rfl

def resCl31 (o : Strm) (s : Strm) : AV × Heap := (vB (F.seq o.name s.name), [])

def preCl31 (o : Strm) (s : Strm) : Bool := true

noncomputable def oCl3 : Orc := orc 58 true encCl3 (fun a => preCl31 a.1 a.2) fun a => resCl31 a.1 a.2

theorem okCl3 : OrcOK Tryd.prog noG oCl3 := by
  refine mk_ok Tryd.f58 (keep := false) (by kernel_rfl) (by kernel_rfl) en0_ok mixed (no_loops (by kernel_rfl)) (by first | exact fun _ _ => ⟨rfl, rfl⟩ | (intro h; cases h)) ?_
  rintro ⟨o, s⟩ hpre hok
  show (runF en0 false _ (encCl31 _ _)).val = some (resCl31 _ _)
  unfold encCl31 resCl31
  rw [evCl3]
  simp only [etaEnt, etaLst, etaSnd, etaStrm, etaMas, Option.bind_some, List.length_map, unStrs, unInts, unBools, unEnts, unItms, unTrns, cond_true, cond_false, Bool.and_true, Bool.true_and, unSnds, unStrms, F.seq]
  done

theorem evCl4 (o : Snd) (s : Strm) : (runF en0 false Tryd.f59 [.agg (eSnd o), .pel (eStrm s) 0]).val =
  some ((vB (ByteArray.toList o.group == ByteArray.toList s.sound)), []) := by kernel_rfl

def encCl41 (o : Snd) (s : Strm) : List AV := [.agg (eSnd o), .pel (eStrm s) 0]

def encCl4 (a : Snd × Strm) : List AV := encCl41 a.1 a.2

theorem encCl4_inj (a a' : Snd × Strm) (h : encCl4 a = encCl4 a') : a = a' := by
  simp only [encCl4, encCl41] at h
  try simp [strs_inj, ents_inj, eEnt_iff, eLst_iff, eSnds_inj, eSnd_iff, eStrms_inj, eStrm_iff, eMas_iff] at h
  grind

theorem unCl4 (o : Snd) (s : Strm) : unenc encCl4 ([AV.agg [(vS o.group), (vS o.name), (vS o.lang), (vB o.dflt), (vS o.uri)], AV.pel [(vS s.name), (vS s.uri), (vI s.mean), (vI s.peak), (vI s.width), (vI s.height), (vS
  s.sound)] (0 : Nat)]) = some (o, s) := unenc_of encCl4_inj (o, s) rfl

theorem unCl4w (o_group : ByteArray) (o_name : ByteArray) (o_lang : ByteArray) (o_dflt : Bool) (o_uri : ByteArray) (s_name : ByteArray) (s_uri : ByteArray) (s_mean : Int) (s_peak : Int) (s_width : Int) (s_height : Int) (s_sound : ByteArray) : unenc encCl4 ([AV.agg [(vS o_group), (vS o_name), (vS o_lang), (vB o_dflt), (vS o_uri)], AV.pel [(vS s_name), (vS s_uri), (vI s_mean), (vI s_peak), (vI s_width), (vI s_height), (vS
  s_sound)] (0 : Nat)]) = some ((Snd.mk o_group o_name o_lang o_dflt o_uri), (Strm.mk s_name s_uri s_mean s_peak s_width s_height s_sound)) := unenc_of encCl4_inj ((Snd.mk o_group o_name o_lang o_dflt o_uri), (Strm.mk s_name s_uri s_mean s_peak s_width s_height s_sound)) rfl

def resCl41 (o : Snd) (s : Strm) : AV × Heap := (vB (F.seq o.group s.sound), [])

def preCl41 (o : Snd) (s : Strm) : Bool := true

noncomputable def oCl4 : Orc := orc 59 true encCl4 (fun a => preCl41 a.1 a.2) fun a => resCl41 a.1 a.2

theorem okCl4 : OrcOK Tryd.prog noG oCl4 := by
  refine mk_ok Tryd.f59 (keep := false) (by kernel_rfl) (by kernel_rfl) en0_ok mixed (no_loops (by kernel_rfl)) (by first | exact fun _ _ => ⟨rfl, rfl⟩ | (intro h; cases h)) ?_
  rintro ⟨o, s⟩ hpre hok
  show (runF en0 false _ (encCl41 _ _)).val = some (resCl41 _ _)
  unfold encCl41 resCl41
  rw [evCl4]
  simp only [etaEnt, etaLst, etaSnd, etaStrm, etaMas, Option.bind_some, List.length_map, unStrs, unInts, unBools, unEnts, unItms, unTrns, cond_true, cond_false, Bool.and_true, Bool.true_and, unSnds, unStrms, F.seq]
  done

end M
end Go.Proofs.YtipngpndgniagaaDoor
