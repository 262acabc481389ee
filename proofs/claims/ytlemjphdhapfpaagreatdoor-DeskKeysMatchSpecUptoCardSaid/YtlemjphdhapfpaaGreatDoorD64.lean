/- What is proved here: what the checks of entries and lists return on plain data (no statement of the seat). -/
import Derived.Test.YtlemjphdhapfpaaGreatDoorD63
namespace Go.Proofs.YtlemjphdhapfpaaGreatDoor
open Go Go.RowKit
set_option linter.unusedVariables false
set_option linter.unusedSimpArgs false

def F.visB (lo : Int) (b : UInt8) : Bool := !(decide ((b.toNat : Int) < lo) || decide ((126 : Int) < (b.toNat : Int)))

def F.visL (lo : Int) (l : List UInt8) : Bool := l.all (F.visB lo)

def F.vis (s : ByteArray) (lo : Int) : Bool := F.visL lo (F.bs s)

def F.hasPrefix (s p : ByteArray) : Bool := decide (p.size ≤ s.size) && F.seq (s.extract 0 p.size) p

/-- The fault of a URI. -/
def F.uriFault (s : ByteArray) : Int := if F.out s.size 1 200 || decide (F.b0 s = 35) || !F.vis s 33 then 3 else 0

def F.extraFault (s : ByteArray) : Int := if !F.hasPrefix s ⟨#[35, 88]⟩ || !F.vis s 32 then 3 else if 300 < s.size then 2 else 0

def F.extrasFault (l : List ByteArray) : Int := M.ffI F.extraFault l

def F.entryFault (e : Ent) (target : Int) : Int :=
  if F.uriFault e.uri ≠ 0 then F.uriFault e.uri else
  if F.out e.milli 1 3600000 then 1 else
  if target < (e.milli + 500) / 1000 then 2 else
  if F.out e.date (-1) 253402300799999 then 1 else
  if !F.seq e.key ⟨#[]⟩ && !F.isName e.key then 5 else
  if 20 < e.extra.length then 2 else F.extrasFault e.extra

def F.entsFault (target : Int) (l : List Ent) : Int := M.ffI (fun e => F.entryFault e target) l

def F.check (l : Lst) : Int :=
  if F.out l.target 1 3600 || F.out l.first 0 999999999999000 || F.out l.breaks 0 1000000000000000 then 1 else
  if 1000 < l.entries.length then 2 else F.entsFault l.target l.entries

def F.sameSs (l : List (ByteArray × ByteArray)) : Bool := l.all fun p => F.seq p.1 p.2

/-- Entries are alike. -/
def F.sameE (a b : Ent) : Bool := F.seq a.uri b.uri && (a.milli == b.milli) && (a.brk == b.brk) && (a.date == b.date) && F.seq a.key b.key && (a.gap == b.gap) && decide (a.extra.length = b.extra.length) && F.sameSs (a.extra.zip b.extra)

theorem F.zip_all {α : Type} (p : α → α → Bool) (h : ∀ a, p a a = true) : ∀ l : List α, ((l.zip l).all fun q => p q.1 q.2) = true
  | [] => rfl
  | y :: l => by simp only [List.zip_cons_cons, List.all_cons, h, Bool.true_and]; exact F.zip_all p h l

theorem F.sameE_refl (a : Ent) : F.sameE a a = true := by
  simp only [F.sameE, F.seq_refl, F.sameSs, F.zip_all F.seq F.seq_refl]
  simp

theorem F.zip_at {α β : Type} {a : List α} {b : List β} {k : Nat} {y : α × β} (h : (a.zip b)[k]? = some y) : a[k]? = some y.1 ∧ b[k]? = some y.2 := by
  rw [List.getElem?_zip_eq_some] at h
  exact h

namespace M

def stVis (s : ByteArray) (lo : Int) (k : Nat) : St := ⟨[(8, vI k), (7, vI s.size), (1, vU lo), (0, vS s)], []⟩

def stVis1 (a : ByteArray × Int × Nat) : St := stVis a.1 a.2.1 a.2.2

theorem stVis_inj (a a' : ByteArray × Int × Nat) (h : stVis1 a = stVis1 a') : a = a' := by
  simp only [stVis1, stVis] at h
  try simp [strs_inj, ints_inj, bools_inj, u8s_inj, eEnts_inj, eEnt_iff, eLsts_inj, eLst_iff, eSegs_inj, eSeg_iff, eRots_inj, eRot_iff, eBeats_inj, eBeat_iff, eSpans_inj, eSpan_iff, eHoles_inj, eHole_iff] at h
  grind

theorem unstVis (s : ByteArray) (lo : Int) (k : Nat) : unenc stVis1 (St.mk [(8, (vI (↑k : Int))), (7, (vI (↑(ByteArray.size s) : Int))), (1, (vU lo)), (0, (vS s))] []) = some (s, lo, k) := unenc_of stVis_inj (s, lo, k) rfl

theorem unstVis0 (s : ByteArray) (lo : Int)  : unenc stVis1 (St.mk [(8, (vI (0 : Int))), (7, (vI (↑(ByteArray.size s) : Int))), (1, (vU lo)), (0, (vS s))] []) = some (s, lo, 0) := unenc_of stVis_inj (s, lo, 0) rfl

def outVis (s : ByteArray) (lo : Int) (k : Nat) : T (Ex × St) := .ifB (F.visL lo ((F.bs s).drop k)) (.ret (.exit 0, ⟨[], []⟩)) (.ret (.ret, ⟨[(4, vB false)], []⟩))

noncomputable def prlVis (s : ByteArray) (lo : Int) (k : Nat) : Bool := decide (s.size ≤ 9223372036854775807) && decide (k ≤ s.size)

noncomputable def lpVis : Nat × (St → T (Ex × St)) := (2, lpo [8, 7, 1, 0] [] stVis1 (fun a => prlVis a.1 a.2.1 a.2.2) fun a => outVis a.1 a.2.1 a.2.2)

noncomputable def enVis : Env := envH ty noG lks [] [] [] [lpVis]

theorem enVis_ok : EnvOK Tryz.prog enVis := by
  refine envH_ok lks_ok ty_ok ?_ ?_
  · simp
  · simp

def encVis1 (s : ByteArray) (lo : Int) : List AV := [vS s, vU lo]

def encVis (a : ByteArray × Int) : List AV := encVis1 a.1 a.2

theorem encVis_inj (a a' : ByteArray × Int) (h : encVis a = encVis a') : a = a' := by
  simp only [encVis, encVis1] at h
  try simp [strs_inj, ints_inj, bools_inj, u8s_inj, eEnts_inj, eEnt_iff, eLsts_inj, eLst_iff, eSegs_inj, eSeg_iff, eRots_inj, eRot_iff, eBeats_inj, eBeat_iff, eSpans_inj, eSpan_iff, eHoles_inj, eHole_iff] at h
  grind

theorem unVis (s : ByteArray) (lo : Int) : unenc encVis ([(vS s), (vU lo)]) = some (s, lo) := unenc_of encVis_inj (s, lo) rfl

def resVis1 (s : ByteArray) (lo : Int) : AV × Heap := (vB (F.vis s lo), [])

def preVis1 (s : ByteArray) (lo : Int) : Bool := true

noncomputable def oVis : Orc := orc 48 true encVis (fun a => preVis1 a.1 a.2) fun a => resVis1 a.1 a.2

theorem evVisL (s : ByteArray) (lo : Int) (k : Nat) : ((exec enVis (loopN Tryz.f48 0) (stVis s lo k)).bind (lessX ([8, 7, 1, 0], []) ([], []) ([4], []))).val =
  bif decide ((↑k : Int) < (↑(ByteArray.size s) : Int)) then Option.bind s[k]? fun (z : UInt8) => bif !decide ((↑(UInt8.toNat z) : Int) < lo) then Option.bind s[k]? fun (z_1
  : UInt8) => bif bif decide ((↑(UInt8.toNat z) : Int) < lo) then true else decide ((126 : Int) < (↑(UInt8.toNat z_1) : Int)) then some (Ex.ret, St.mk [(4, (vB false))] [])
  else some (Ex.normal, St.mk [(8, (vI (IntKind.wrap IntKind.i64 ((↑k : Int) + (1 : Int))))), (7, (vI (↑(ByteArray.size s) : Int))), (1, (vU lo)), (0, (vS s))] []) else bif
  !decide ((↑(UInt8.toNat z) : Int) < lo) then none else some (Ex.ret, St.mk [(4, (vB false))] []) else some (Ex.exit (0 : Nat), St.mk [] []) := by kernel_rfl

theorem evVis (s : ByteArray) (lo : Int) : (runF enVis false Tryz.f48 [vS s, vU lo]).val =
  Option.bind (unenc stVis1 (St.mk [(8, (vI (0 : Int))), (7, (vI (↑(ByteArray.size s) : Int))), (1, (vU lo)), (0, (vS s))] [])) fun (z : ByteArray × Int × Nat) => bif decide
  (ByteArray.size z.fst ≤ (9223372036854775807 : Nat)) && decide (z.snd.snd ≤ ByteArray.size z.fst) && true then bif F.visL z.snd.fst (List.drop z.snd.snd (F.bs z.fst)) then
  some ((vB true), []) else some ((vB false), []) else none := by kernel_rfl

theorem lpVis_ok (s : ByteArray) (lo : Int) (hs : s.size ≤ 9223372036854775807) (k : Nat) (hk : k ≤ s.size) : ∀ e s', (outVis s lo k).val = some (e, s') → LoopOK enVis (loopN Tryz.f48 0) (stVis s lo k) e s' := by
  refine loop_all (xs := F.bs s) (st := stVis s lo) (n := ([8, 7, 1, 0], [])) (e := ([], [])) (r := ([4], [])) ?_ ⟨by simp, rfl⟩ ⟨by simp, rfl⟩ (fun _ => rfl) ?_ k (by rw [F.bs_len]; exact hk)
  · rw [evVisL, F.bs_len]; simp
  · intro k y hy
    have hk : k < s.size := by rw [← F.bs_len]; exact (List.getElem?_eq_some_iff.1 hy).1
    have hkz : ((k : Int) < (s.size : Int)) := by omega
    have hw : IntKind.i64.wrap ((k : Int) + 1) = ((k + 1 : Nat) : Int) := by rw [wrap_id (by omega) (by omega)]; rfl
    rw [evVisL, F.bs_get, hy]
    simp only [hkz, decide_true, Option.bind_some, hw, F.visB]
    cases h1 : decide ((y.toNat : Int) < lo) <;> cases h2 : decide ((126 : Int) < (y.toNat : Int)) <;> simp_all [stVis]

theorem okVis : OrcOK Tryz.prog noG oVis := by
  refine mk_ok Tryz.f48 (keep := false) (by kernel_rfl) (by kernel_rfl) enVis_ok mixed (one_loop (x0 := loopN Tryz.f48 0) (by kernel_rfl) (lpo_ok ?_)) (by first | exact fun _ _ => ⟨rfl, rfl⟩ | (intro h; cases h)) ?_
  · rintro ⟨s, lo, k⟩ hp
    simp only [prlVis, Bool.and_eq_true, decide_eq_true_eq] at hp
    exact lpVis_ok s lo hp.1 k hp.2
  · rintro ⟨s, lo⟩ _ hok
    have hs := okA_str (hok _ (List.mem_cons_self ..))
    show (runF enVis false _ (encVis1 _ _)).val = some (resVis1 _ _)
    unfold encVis1 resVis1
    rw [evVis, unstVis0]
    simp [hs, F.vis]
    cases F.visL lo (F.bs s) <;> rfl

def encHasPre01 (s p : ByteArray) : List AV := [vS s, vS p]

def encHasPre0 (a : ByteArray × ByteArray) : List AV := encHasPre01 a.1 a.2

theorem encHasPre0_inj (a a' : ByteArray × ByteArray) (h : encHasPre0 a = encHasPre0 a') : a = a' := by
  simp only [encHasPre0, encHasPre01] at h
  try simp [strs_inj, ints_inj, bools_inj, u8s_inj, eEnts_inj, eEnt_iff, eLsts_inj, eLst_iff, eSegs_inj, eSeg_iff, eRots_inj, eRot_iff, eBeats_inj, eBeat_iff, eSpans_inj, eSpan_iff, eHoles_inj, eHole_iff] at h
  grind

theorem unHasPre0 (s p : ByteArray) : unenc encHasPre0 ([(vS s), (vS p)]) = some (s, p) := unenc_of encHasPre0_inj (s, p) rfl

def resHasPre01 (s p : ByteArray) : AV × Heap := (vB (F.hasPrefix s p), [])

def preHasPre01 (s p : ByteArray) : Bool := true

noncomputable def oHasPre0 : Orc := orc 84 true encHasPre0 (fun a => preHasPre01 a.1 a.2) fun a => resHasPre01 a.1 a.2

theorem evHasPre0 (s p : ByteArray) : (runF en0 false Tryz.f84 [vS s, vS p]).val =
  bif decide ((↑(ByteArray.size p) : Int) ≤ (↑(ByteArray.size s) : Int)) then bif Nat.ble (0 : Nat) (ByteArray.size p) && Nat.ble (ByteArray.size p) (ByteArray.size s) then
  some ((vB (bif decide ((↑(ByteArray.size p) : Int) ≤ (↑(ByteArray.size s) : Int)) then ByteArray.toList (ByteArray.extract s (0 : Nat) (ByteArray.size p)) ==
  ByteArray.toList p else false)), []) else none else bif decide ((↑(ByteArray.size p) : Int) ≤ (↑(ByteArray.size s) : Int)) then none else some ((vB false), []) := by kernel_rfl

theorem okHasPre0 : OrcOK Tryz.prog noG oHasPre0 := by
  refine mk_ok Tryz.f84 (keep := false) (by kernel_rfl) (by kernel_rfl) en0_ok mixed (no_loops (by kernel_rfl)) (by first | exact fun _ _ => ⟨rfl, rfl⟩ | (intro h; cases h)) ?_
  rintro ⟨s, p⟩ _ hok
  show (runF en0 false _ (encHasPre01 _ _)).val = some (resHasPre01 _ _)
  unfold encHasPre01 resHasPre01
  rw [evHasPre0]
  unfold F.hasPrefix F.seq
  by_cases h : p.size ≤ s.size
  · have h' : (p.size : Int) ≤ s.size := by omega
    have hb : Nat.ble p.size s.size = true := ble_t h
    have hb0 : Nat.ble 0 p.size = true := ble_t (Nat.zero_le _)
    simp only [h, h', hb, hb0, decide_true, Bool.true_and, cond_true]
  · have h' : ¬ (p.size : Int) ≤ s.size := by omega
    simp [h, h']

noncomputable def enHasPre : Env := envH ty noG lks [oHasPre0] [] [] []

theorem enHasPre_ok : EnvOK Tryz.prog enHasPre := by
  refine envH_ok lks_ok ty_ok ?_ ?_
  · simp only [List.forall_mem_cons]
    exact ⟨okHasPre0, by simp⟩
  · simp

def encHasPre1 (s p : ByteArray) : List AV := [vS s, vS p]

def encHasPre (a : ByteArray × ByteArray) : List AV := encHasPre1 a.1 a.2

theorem encHasPre_inj (a a' : ByteArray × ByteArray) (h : encHasPre a = encHasPre a') : a = a' := by
  simp only [encHasPre, encHasPre1] at h
  try simp [strs_inj, ints_inj, bools_inj, u8s_inj, eEnts_inj, eEnt_iff, eLsts_inj, eLst_iff, eSegs_inj, eSeg_iff, eRots_inj, eRot_iff, eBeats_inj, eBeat_iff, eSpans_inj, eSpan_iff, eHoles_inj, eHole_iff] at h
  grind

theorem unHasPre (s p : ByteArray) : unenc encHasPre ([(vS s), (vS p)]) = some (s, p) := unenc_of encHasPre_inj (s, p) rfl

def resHasPre1 (s p : ByteArray) : AV × Heap := (vB (F.hasPrefix s p), [])

def preHasPre1 (s p : ByteArray) : Bool := true

noncomputable def oHasPre : Orc := orc 47 true encHasPre (fun a => preHasPre1 a.1 a.2) fun a => resHasPre1 a.1 a.2

theorem evHasPre (s p : ByteArray) : (runF enHasPre false Tryz.f47 [vS s, vS p]).val =
  Option.bind (unenc encHasPre0 [(vS s), (vS p)]) fun (z : ByteArray × ByteArray) => some ((vB (F.hasPrefix z.fst z.snd)), []) := by kernel_rfl

theorem okHasPre : OrcOK Tryz.prog noG oHasPre := by
  refine mk_ok Tryz.f47 (keep := false) (by kernel_rfl) (by kernel_rfl) enHasPre_ok mixed (no_loops (by kernel_rfl)) (by first | exact fun _ _ => ⟨rfl, rfl⟩ | (intro h; cases h)) ?_
  rintro ⟨s, p⟩ _ hok
  show (runF enHasPre false _ (encHasPre1 _ _)).val = some (resHasPre1 _ _)
  unfold encHasPre1 resHasPre1
  rw [evHasPre, unHasPre0]
  simp [preHasPre01]

noncomputable def enUri : Env := envH ty noG lks [oOut, oVis] [] [] []

theorem enUri_ok : EnvOK Tryz.prog enUri := by
  refine envH_ok lks_ok ty_ok ?_ ?_
  · simp only [List.forall_mem_cons]
    exact ⟨okOut, okVis, by simp⟩
  · simp

theorem evUri (s : ByteArray) : (runF enUri false Tryz.f45 [vS s]).val =
  Option.bind (unenc encOut [(vI (↑(ByteArray.size s) : Int)), (vI (1 : Int)), (vI (200 : Int))]) fun (z : Int × Int × Int) => bif !F.out z.fst z.snd.fst z.snd.snd then
  Option.bind s[(0 : Nat)]? fun (z_1 : UInt8) => bif !bif F.out z.fst z.snd.fst z.snd.snd then true else (↑(UInt8.toNat z_1) : Int) == (35 : Int) then Option.bind (unenc
  encVis [(vS s), (vU (33 : Int))]) fun (z_2 : ByteArray × Int) => bif bif bif F.out z.fst z.snd.fst z.snd.snd then true else (↑(UInt8.toNat z_1) : Int) == (35 : Int) then
  true else !F.vis z_2.fst z_2.snd then some ((vI (3 : Int)), []) else some ((vI (0 : Int)), []) else bif !bif F.out z.fst z.snd.fst z.snd.snd then true else (↑(UInt8.toNat
  z_1) : Int) == (35 : Int) then none else some ((vI (3 : Int)), []) else bif !F.out z.fst z.snd.fst z.snd.snd then none else some ((vI (3 : Int)), []) := by kernel_rfl

def encUri1 (s : ByteArray) : List AV := [vS s]

def encUri (a : ByteArray) : List AV := encUri1 a

theorem encUri_inj (a a' : ByteArray) (h : encUri a = encUri a') : a = a' := by
  simp only [encUri, encUri1] at h
  try simp [strs_inj, ints_inj, bools_inj, u8s_inj, eEnts_inj, eEnt_iff, eLsts_inj, eLst_iff, eSegs_inj, eSeg_iff, eRots_inj, eRot_iff, eBeats_inj, eBeat_iff, eSpans_inj, eSpan_iff, eHoles_inj, eHole_iff] at h
  grind

theorem unUri (s : ByteArray) : unenc encUri ([(vS s)]) = some (s) := unenc_of encUri_inj (s) rfl

def resUri1 (s : ByteArray) : AV × Heap := (vI (F.uriFault s), [])

def preUri1 (s : ByteArray) : Bool := true

noncomputable def oUri : Orc := orc 45 true encUri (fun a => preUri1 a) fun a => resUri1 a

theorem okUri : OrcOK Tryz.prog noG oUri := by
  refine mk_ok Tryz.f45 (keep := false) (by kernel_rfl) (by kernel_rfl) enUri_ok mixed (no_loops (by kernel_rfl)) (by first | exact fun _ _ => ⟨rfl, rfl⟩ | (intro h; cases h)) ?_
  rintro s _ hok
  show (runF enUri false _ (encUri1 _)).val = some (resUri1 _)
  unfold encUri1 resUri1
  rw [evUri, unOut]
  simp only [Option.bind_some, unVis]
  unfold F.uriFault F.b0
  rw [F.bs_get]
  have h0 := F.bs_len s
  cases h1 : F.out s.size 1 200
  · have : 0 < s.size := by simp [F.out] at h1; omega
    cases hb : F.bs s with
    | nil => rw [hb] at h0; simp at h0; omega
    | cons b l =>
      simp
      grind
  · simp

def stEntF (xs : List ByteArray) (k : Nat) : St := ⟨[(47, vI k), (46, vI xs.length), (45, .sl (xs.map eStr))], []⟩

def stEntF1 (a : (List ByteArray) × Nat) : St := stEntF a.1 a.2

theorem stEntF_inj (a a' : (List ByteArray) × Nat) (h : stEntF1 a = stEntF1 a') : a = a' := by
  simp only [stEntF1, stEntF] at h
  try simp [strs_inj, ints_inj, bools_inj, u8s_inj, eEnts_inj, eEnt_iff, eLsts_inj, eLst_iff, eSegs_inj, eSeg_iff, eRots_inj, eRot_iff, eBeats_inj, eBeat_iff, eSpans_inj, eSpan_iff, eHoles_inj, eHole_iff] at h
  grind

theorem unstEntF (xs : List ByteArray) (k : Nat) : unenc stEntF1 (St.mk [(47, (vI (↑k : Int))), (46, (vI (↑(List.length xs) : Int))), (45, AV.sl (List.map eStr xs))] []) = some (xs, k) := unenc_of stEntF_inj (xs, k) rfl

theorem unstEntF0 (xs : List ByteArray)  : unenc stEntF1 (St.mk [(47, (vI (0 : Int))), (46, (vI (↑(List.length xs) : Int))), (45, AV.sl (List.map eStr xs))] []) = some (xs, 0) := unenc_of stEntF_inj (xs, 0) rfl

def outEntF (xs : List ByteArray) (k : Nat) : T (Ex × St) := .ifB (decide (F.extrasFault (xs.drop k) = 0)) (.ret (.exit 1, ⟨[], []⟩)) (.ret (.ret, ⟨[(4, vI (F.extrasFault (xs.drop k)))], []⟩))

noncomputable def prlEntF (xs : List ByteArray) (k : Nat) : Bool := decide (xs.length ≤ 9223372036854775807) && decide (k ≤ xs.length)

noncomputable def lpEntF : Nat × (St → T (Ex × St)) := (15, lpo [47, 46, 45] [] stEntF1 (fun a => prlEntF a.1 a.2) fun a => outEntF a.1 a.2)

noncomputable def enEntF : Env := envH ty noG lks [oUri, oOut, oName, oHasPre, oVis] [] [] [lpEntF]

theorem enEntF_ok : EnvOK Tryz.prog enEntF := by
  refine envH_ok lks_ok ty_ok ?_ ?_
  · simp only [List.forall_mem_cons]
    exact ⟨okUri, okOut, okName, okHasPre, okVis, by simp⟩
  · simp

theorem evEntFL (xs : List ByteArray) (k : Nat) : ((exec enEntF (loopN Tryz.f30 0) (stEntF xs k)).bind (lessX ([47, 46, 45], []) ([], []) ([4], []))).val =
  bif decide ((↑k : Int) < (↑(List.length xs) : Int)) then Option.bind (unenc (List.map eStr) (List.map eStr xs)) fun (z : List ByteArray) => bif decide (k < List.length z)
  then Option.bind (unenc encHasPre [(vS (List.getD z k (ByteArray.mk (Array.mk [])))), (vS (ByteArray.mk (Array.mk [(35 : UInt8), (88 : UInt8)])))]) fun (z_1 : ByteArray ×
  ByteArray) => bif !!F.hasPrefix z_1.fst z_1.snd then Option.bind (unenc encVis [(vS (List.getD z k (ByteArray.mk (Array.mk [])))), (vU (32 : Int))]) fun (z_2 : ByteArray ×
  Int) => bif bif !F.hasPrefix z_1.fst z_1.snd then true else !F.vis z_2.fst z_2.snd then some (Ex.ret, St.mk [(4, (vI (3 : Int)))] []) else bif decide ((300 : Int) <
  (↑(ByteArray.size (List.getD z k (ByteArray.mk (Array.mk [])))) : Int)) then some (Ex.ret, St.mk [(4, (vI (2 : Int)))] []) else some (Ex.normal, St.mk [(47, (vI
  (IntKind.wrap IntKind.i64 ((↑k : Int) + (1 : Int))))), (46, (vI (↑(List.length xs) : Int))), (45, AV.sl (List.map eStr xs))] []) else bif !!F.hasPrefix z_1.fst z_1.snd
  then none else some (Ex.ret, St.mk [(4, (vI (3 : Int)))] []) else none else some (Ex.exit (1 : Nat), St.mk [] []) := by kernel_rfl

theorem evEntF (e : Ent) (t : Int) : (runF enEntF false Tryz.f30 [.agg (eEnt e), vI t]).val =
  Option.bind (unenc encUri [(vS e.uri)]) fun (z : ByteArray) => bif F.uriFault z != (0 : Int) then some ((vI (F.uriFault z)), []) else Option.bind (unenc encOut [(vI
  e.milli), (vI (1 : Int)), (vI (3600000 : Int))]) fun (z : Int × Int × Int) => bif F.out z.fst z.snd.fst z.snd.snd then some ((vI (1 : Int)), []) else bif decide (t <
  IntKind.wrap IntKind.i64 (Int.tdiv (IntKind.wrap IntKind.i64 (e.milli + (500 : Int))) (1000 : Int))) then some ((vI (2 : Int)), []) else Option.bind (unenc encOut [(vI
  e.date), (vI (-1 : Int)), (vI (253402300799999 : Int))]) fun (z : Int × Int × Int) => bif F.out z.fst z.snd.fst z.snd.snd then some ((vI (1 : Int)), []) else bif
  !ByteArray.toList e.key == ByteArray.toList (ByteArray.mk (Array.mk [])) then Option.bind (unenc encName [(vS e.key)]) fun (z : ByteArray) => bif bif !ByteArray.toList
  e.key == ByteArray.toList (ByteArray.mk (Array.mk [])) then !F.isName z else false then some ((vI (5 : Int)), []) else bif decide ((20 : Int) < (↑(List.length (List.map
  eStr e.extra)) : Int)) then some ((vI (2 : Int)), []) else Option.bind (unenc stEntF1 (St.mk [(47, (vI (0 : Int))), (46, (vI (↑(List.length (List.map eStr e.extra)) :
  Int))), (45, AV.sl (List.map eStr e.extra))] [])) fun (z : List ByteArray × Nat) => bif decide (List.length z.fst ≤ (9223372036854775807 : Nat)) && decide (z.snd ≤
  List.length z.fst) && true then bif decide (F.extrasFault (List.drop z.snd z.fst) = (0 : Int)) then some ((vI (0 : Int)), []) else some ((vI (F.extrasFault (List.drop
  z.snd z.fst))), []) else none else bif !ByteArray.toList e.key == ByteArray.toList (ByteArray.mk (Array.mk [])) then none else bif decide ((20 : Int) < (↑(List.length
  (List.map eStr e.extra)) : Int)) then some ((vI (2 : Int)), []) else Option.bind (unenc stEntF1 (St.mk [(47, (vI (0 : Int))), (46, (vI (↑(List.length (List.map eStr
  e.extra)) : Int))), (45, AV.sl (List.map eStr e.extra))] [])) fun (z : List ByteArray × Nat) => bif decide (List.length z.fst ≤ (9223372036854775807 : Nat)) && decide
  (z.snd ≤ List.length z.fst) && true then bif decide (F.extrasFault (List.drop z.snd z.fst) = (0 : Int)) then some ((vI (0 : Int)), []) else some ((vI (F.extrasFault
  (List.drop z.snd z.fst))), []) else none := by kernel_rfl

theorem lpEntF_ok (xs : List ByteArray) (hs : xs.length ≤ 9223372036854775807) (k : Nat) (hk : k ≤ xs.length) : ∀ e s', (outEntF xs k).val = some (e, s') → LoopOK enEntF (loopN Tryz.f30 0) (stEntF xs k) e s' := by
  refine loop_code (xs := xs) (st := stEntF xs) (g := F.extraFault) (o := fun c => (.ret, ⟨[(4, vI c)], []⟩)) (n := ([47, 46, 45], [])) (e := ([], [])) (r := ([4], [])) ?_ ⟨by simp, rfl⟩ (fun _ => ⟨by simp, rfl⟩) (fun _ => rfl) ?_ k hk
  · rw [evEntFL]; simp
  · intro k y hy
    have hlt := lt_at hy
    rw [evEntFL]
    simp only [cast_lt hlt, decide_eq_true hlt, Option.bind_some, next_at hlt hs, unStrs, unHasPre, unVis, getD_at hy, F.extraFault, stEntF]
    grind

def encEntF1 (e : Ent) (t : Int) : List AV := [.agg (eEnt e), vI t]

def encEntF (a : Ent × Int) : List AV := encEntF1 a.1 a.2

theorem encEntF_inj (a a' : Ent × Int) (h : encEntF a = encEntF a') : a = a' := by
  simp only [encEntF, encEntF1] at h
  try simp [strs_inj, ints_inj, bools_inj, u8s_inj, eEnts_inj, eEnt_iff, eLsts_inj, eLst_iff, eSegs_inj, eSeg_iff, eRots_inj, eRot_iff, eBeats_inj, eBeat_iff, eSpans_inj, eSpan_iff, eHoles_inj, eHole_iff] at h
  grind

theorem unEntF (e : Ent) (t : Int) : unenc encEntF ([AV.agg [(vS e.uri), (vI e.milli), (vB e.brk), (vI e.date), (vS e.key), (vB e.gap), AV.sl (List.map eStr e.extra)], (vI t)]) = some (e, t) := unenc_of encEntF_inj (e, t) rfl

theorem unEntFw (e_uri : ByteArray) (e_milli : Int) (e_brk : Bool) (e_date : Int) (e_key : ByteArray) (e_gap : Bool) (e_extra : List ByteArray) (t : Int) : unenc encEntF ([AV.agg [(vS e_uri), (vI e_milli), (vB e_brk), (vI e_date), (vS e_key), (vB e_gap), AV.sl (List.map eStr e_extra)], (vI t)]) = some ((Ent.mk e_uri e_milli e_brk e_date e_key e_gap e_extra), t) := unenc_of encEntF_inj ((Ent.mk e_uri e_milli e_brk e_date e_key e_gap e_extra), t) rfl

def resEntF1 (e : Ent) (t : Int) : AV × Heap := (vI (F.entryFault e t), [])

def preEntF1 (e : Ent) (t : Int) : Bool := true

noncomputable def oEntF : Orc := orc 30 true encEntF (fun a => preEntF1 a.1 a.2) fun a => resEntF1 a.1 a.2

theorem ent_bounds {e : Ent} (h : OkA (.agg (eEnt e))) : (-9223372036854775808 ≤ e.milli ∧ e.milli ≤ 9223372036854775807) ∧ e.extra.length ≤ 9223372036854775807 ∧ (-9223372036854775808 ≤ e.date ∧ e.date ≤ 9223372036854775807) ∧ e.uri.size ≤ 9223372036854775807 ∧ e.key.size ≤ 9223372036854775807 := by
  have h := okA_agg h
  simp only [eEnt, List.forall_mem_cons] at h
  obtain ⟨h1, h2, h3, h4, h5, h6, h7, _⟩ := h
  refine ⟨okA_int h2, ?_, okA_int h4, okA_str h1, okA_str h5⟩
  simpa using (okA_sl h7).1

theorem okEntF : OrcOK Tryz.prog noG oEntF := by
  refine mk_ok Tryz.f30 (keep := false) (by kernel_rfl) (by kernel_rfl) enEntF_ok mixed (one_loop (x0 := loopN Tryz.f30 0) (by kernel_rfl) (lpo_ok ?_)) (by first | exact fun _ _ => ⟨rfl, rfl⟩ | (intro h; cases h)) ?_
  · rintro ⟨xs, k⟩ hp
    simp only [prlEntF, Bool.and_eq_true, decide_eq_true_eq] at hp
    exact lpEntF_ok xs hp.1 k hp.2
  · rintro ⟨e, t⟩ _ hok
    obtain ⟨hm, hx, _⟩ := ent_bounds (hok _ (List.mem_cons_self ..))
    show (runF enEntF false _ (encEntF1 _ _)).val = some (resEntF1 _ _)
    unfold encEntF1 resEntF1
    rw [evEntF]
    simp only [unUri, unOut, unName, unstEntF0, Option.bind_some, List.length_map, F.entryFault, F.seq, hx]
    cases h1 : F.out e.milli 1 3600000
    · have : IntKind.i64.wrap (Int.tdiv (IntKind.i64.wrap (e.milli + 500)) 1000) = (e.milli + 500) / 1000 := by
        simp [F.out] at h1
        rw [wrap_id (n := e.milli + 500) (by omega) (by omega), tdiv_nn (by omega), wrap_id (by omega) (by omega)]
      rw [this]
      simp only [Bool.cond_eq_ite]
      grind
    · simp only [Bool.cond_eq_ite]
      grind

def stChk (l : Lst) (k : Nat) : St := ⟨[(28, vI k), (27, vI l.entries.length), (26, .sl (l.entries.map eEnt)), (1, .ptr 1 0 0)], [(1, ⟨true, 0, 0, [eLst l]⟩)]⟩

def stChk1 (a : Lst × Nat) : St := stChk a.1 a.2

theorem stChk_inj (a a' : Lst × Nat) (h : stChk1 a = stChk1 a') : a = a' := by
  simp only [stChk1, stChk] at h
  try simp [strs_inj, ints_inj, bools_inj, u8s_inj, eEnts_inj, eEnt_iff, eLsts_inj, eLst_iff, eSegs_inj, eSeg_iff, eRots_inj, eRot_iff, eBeats_inj, eBeat_iff, eSpans_inj, eSpan_iff, eHoles_inj, eHole_iff] at h
  grind

theorem unstChk (l : Lst) (k : Nat) : unenc stChk1 (St.mk [(28, (vI (↑k : Int))), (27, (vI (↑(List.length l.entries) : Int))), (26, AV.sl (List.map eEnt l.entries)), (1, .ptr 1 0 0)] [(1, Blk.mk true 0 0 [[(vI l.target),
  (vI l.first), (vI l.breaks), AV.sl (List.map eEnt l.entries), (vB l.ended)]])]) = some (l, k) := unenc_of stChk_inj (l, k) rfl

theorem unstChk0 (l : Lst)  : unenc stChk1 (St.mk [(28, (vI (0 : Int))), (27, (vI (↑(List.length l.entries) : Int))), (26, AV.sl (List.map eEnt l.entries)), (1, .ptr 1 0 0)] [(1, Blk.mk true 0 0 [[(vI l.target), (vI
  l.first), (vI l.breaks), AV.sl (List.map eEnt l.entries), (vB l.ended)]])]) = some (l, 0) := unenc_of stChk_inj (l, 0) rfl

def outChk (l : Lst) (k : Nat) : T (Ex × St) := .ifB (decide (F.entsFault l.target (l.entries.drop k) = 0)) (.ret (.exit 1, ⟨[], []⟩)) (.ret (.ret, ⟨[(2, vI (F.entsFault l.target (l.entries.drop k)))], []⟩))

noncomputable def prlChk (l : Lst) (k : Nat) : Bool := decide (l.entries.length ≤ 9223372036854775807) && decide (k ≤ l.entries.length)

noncomputable def lpChk : Nat × (St → T (Ex × St)) := (6, lpo [28, 27, 26, 1] [1] stChk1 (fun a => prlChk a.1 a.2) fun a => outChk a.1 a.2)

noncomputable def enChk : Env := envH ty noG lks [oOut, oEntF] [] [] [lpChk]

theorem enChk_ok : EnvOK Tryz.prog enChk := by
  refine envH_ok lks_ok ty_ok ?_ ?_
  · simp only [List.forall_mem_cons]
    exact ⟨okOut, okEntF, by simp⟩
  · simp

theorem evChkL (l : Lst) (k : Nat) : ((exec enChk (loopN Tryz.f9 0) (stChk l k)).bind (lessX ([28, 27, 26, 1], [1]) ([], []) ([2], []))).val =
  bif decide ((↑k : Int) < (↑(List.length l.entries) : Int)) then Option.bind (unenc (List.map eEnt) (List.map eEnt l.entries)) fun (z : List Ent) => bif decide (k <
  List.length z) then Option.bind (unenc encEntF [AV.agg [(vS (List.getD z k (Ent.mk (ByteArray.mk (Array.mk [])) (0 : Int) false (0 : Int) (ByteArray.mk (Array.mk []))
  false [])).uri), (vI (List.getD z k (Ent.mk (ByteArray.mk (Array.mk [])) (0 : Int) false (0 : Int) (ByteArray.mk (Array.mk [])) false [])).milli), (vB (List.getD z k
  (Ent.mk (ByteArray.mk (Array.mk [])) (0 : Int) false (0 : Int) (ByteArray.mk (Array.mk [])) false [])).brk), (vI (List.getD z k (Ent.mk (ByteArray.mk (Array.mk [])) (0 :
  Int) false (0 : Int) (ByteArray.mk (Array.mk [])) false [])).date), (vS (List.getD z k (Ent.mk (ByteArray.mk (Array.mk [])) (0 : Int) false (0 : Int) (ByteArray.mk
  (Array.mk [])) false [])).key), (vB (List.getD z k (Ent.mk (ByteArray.mk (Array.mk [])) (0 : Int) false (0 : Int) (ByteArray.mk (Array.mk [])) false [])).gap), AV.sl
  (List.map eStr (List.getD z k (Ent.mk (ByteArray.mk (Array.mk [])) (0 : Int) false (0 : Int) (ByteArray.mk (Array.mk [])) false [])).extra)], (vI l.target)]) fun (z : Ent
  × Int) => bif F.entryFault z.fst z.snd != (0 : Int) then some (Ex.ret, St.mk [(2, (vI (F.entryFault z.fst z.snd)))] []) else some (Ex.normal, St.mk [(28, (vI (IntKind.wrap
  IntKind.i64 ((↑k : Int) + (1 : Int))))), (27, (vI (↑(List.length l.entries) : Int))), (26, AV.sl (List.map eEnt l.entries)), (1, .ptr 1 0 0)] [(1, Blk.mk true 0 0 [[(vI
  l.target), (vI l.first), (vI l.breaks), AV.sl (List.map eEnt l.entries), (vB l.ended)]])]) else none else some (Ex.exit (1 : Nat), St.mk [] []) := by kernel_rfl

theorem lpChk_ok (l : Lst) (k : Nat) (hp : prlChk l k = true) : ∀ ex s', (outChk l k).val = some (ex, s') → LoopOK enChk (loopN Tryz.f9 0) (stChk l k) ex s' := by
  simp only [prlChk, Bool.and_eq_true, decide_eq_true_eq] at hp
  refine loop_code (xs := l.entries) (st := stChk l) (g := fun e => F.entryFault e l.target) (o := fun c => (.ret, ⟨[(2, vI c)], []⟩)) (n := ([28, 27, 26, 1], [1])) (e := ([], [])) (r := ([2], [])) ?_ ⟨by simp, rfl⟩ (fun _ => ⟨by simp, rfl⟩) (fun _ => rfl) ?_ k hp.2
  · rw [evChkL]; simp
  · intro k y hy
    have hlt := lt_at hy
    rw [evChkL]
    simp only [unOut, unEntF, preOut1, preEntF1, unstChk, unstChk0, prlChk, outChk, etaEnt, etaLst, etaSeg, etaRot, etaBeat, etaSpan, etaHole, Option.bind_some, List.length_map, unStrs, unInts, unBools, unU8s, unEnts, unLsts, unSegs, unRots, unBeats, unSpans, unHoles, F.lt, F.le, cond_true, cond_false, Bool.and_true, Bool.true_and, cast_lt hlt, decide_eq_true hlt, next_at hlt hp.1, getD_at hy, stChk, eEnt, eLst]
    grind

theorem evChk (l : Lst) : (runF enChk false Tryz.f9 [.agg (eLst l)]).val =
  Option.bind (unenc encOut [(vI l.target), (vI (1 : Int)), (vI (3600 : Int))]) fun (z : Int × Int × Int) => bif !F.out z.fst z.snd.fst z.snd.snd then Option.bind (unenc
  encOut [(vI l.first), (vI (0 : Int)), (vI (999999999999000 : Int))]) fun (z_1 : Int × Int × Int) => bif !bif F.out z.fst z.snd.fst z.snd.snd then true else F.out z_1.fst
  z_1.snd.fst z_1.snd.snd then Option.bind (unenc encOut [(vI l.breaks), (vI (0 : Int)), (vI (1000000000000000 : Int))]) fun (z_2 : Int × Int × Int) => bif bif bif F.out
  z.fst z.snd.fst z.snd.snd then true else F.out z_1.fst z_1.snd.fst z_1.snd.snd then true else F.out z_2.fst z_2.snd.fst z_2.snd.snd then some ((vI (1 : Int)), []) else bif
  decide ((1000 : Int) < (↑(List.length (List.map eEnt l.entries)) : Int)) then some ((vI (2 : Int)), []) else Option.bind (unenc stChk1 (St.mk [(28, (vI (0 : Int))), (27,
  (vI (↑(List.length (List.map eEnt l.entries)) : Int))), (26, AV.sl (List.map eEnt l.entries)), (1, .ptr 1 0 0)] [(1, Blk.mk true 0 0 [[(vI l.target), (vI l.first), (vI
  l.breaks), AV.sl (List.map eEnt l.entries), (vB l.ended)]])])) fun (z : Lst × Nat) => bif decide (List.length z.fst.entries ≤ (9223372036854775807 : Nat)) && decide (z.snd
  ≤ List.length z.fst.entries) && true then bif decide (F.entsFault z.fst.target (List.drop z.snd z.fst.entries) = (0 : Int)) then some ((vI (0 : Int)), []) else some ((vI
  (F.entsFault z.fst.target (List.drop z.snd z.fst.entries))), []) else none else some ((vI (1 : Int)), []) else some ((vI (1 : Int)), []) := by kernel_rfl

def encChk1 (l : Lst) : List AV := [.agg (eLst l)]

def encChk (a : Lst) : List AV := encChk1 a

theorem encChk_inj (a a' : Lst) (h : encChk a = encChk a') : a = a' := by
  simp only [encChk, encChk1] at h
  try simp [strs_inj, ints_inj, bools_inj, u8s_inj, eEnts_inj, eEnt_iff, eLsts_inj, eLst_iff, eSegs_inj, eSeg_iff, eRots_inj, eRot_iff, eBeats_inj, eBeat_iff, eSpans_inj, eSpan_iff, eHoles_inj, eHole_iff] at h
  grind

theorem unChk (l : Lst) : unenc encChk ([AV.agg [(vI l.target), (vI l.first), (vI l.breaks), AV.sl (List.map eEnt l.entries), (vB l.ended)]]) = some (l) := unenc_of encChk_inj (l) rfl

theorem unChkw (l_target : Int) (l_first : Int) (l_breaks : Int) (l_entries : List Ent) (l_ended : Bool) : unenc encChk ([AV.agg [(vI l_target), (vI l_first), (vI l_breaks), AV.sl (List.map eEnt l_entries), (vB l_ended)]]) = some ((Lst.mk l_target l_first l_breaks l_entries l_ended)) := unenc_of encChk_inj ((Lst.mk l_target l_first l_breaks l_entries l_ended)) rfl

def resChk1 (l : Lst) : AV × Heap := (vI (F.check l), [])

def preChk1 (l : Lst) : Bool := true

noncomputable def oChk : Orc := orc 9 true encChk (fun a => preChk1 a) fun a => resChk1 a

theorem okChk : OrcOK Tryz.prog noG oChk := by
  refine mk_ok Tryz.f9 (keep := false) (by kernel_rfl) (by kernel_rfl) enChk_ok mixed (one_loop (x0 := loopN Tryz.f9 0) (by kernel_rfl) (lpo_ok ?_)) (by first | exact fun _ _ => ⟨rfl, rfl⟩ | (intro h; cases h)) ?_
  · rintro ⟨l, k⟩ hp
    exact lpChk_ok l k hp
  rintro l hpre hok
  show (runF enChk false _ (encChk1 _)).val = some (resChk1 _)
  unfold encChk1 resChk1
  rw [evChk]
  have hx : l.entries.length ≤ 9223372036854775807 := by
    have h := okA_agg (hok _ (List.mem_cons_self ..))
    simp only [eLst, List.forall_mem_cons] at h
    simpa using (okA_sl h.2.2.2.1).1
  simp only [unOut, unEntF, preOut1, preEntF1, unstChk, unstChk0, prlChk, outChk, etaEnt, etaLst, etaSeg, etaRot, etaBeat, etaSpan, etaHole, Option.bind_some, List.length_map, unStrs, unInts, unBools, unU8s, unEnts, unLsts, unSegs, unRots, unBeats, unSpans, unHoles, F.lt, F.le, cond_true, cond_false, Bool.and_true, Bool.true_and, F.check, hx, List.drop_zero, Nat.zero_le, decide_true]
  simp only [Bool.cond_eq_ite]
  grind

theorem evCln0 : (runF en0 false Tryz.f14 [.nz true []]).val =
  some (AV.sl [], []) := by kernel_rfl

theorem evCln1 (xs : List ByteArray) : (runF en0 false Tryz.f14 [.nz false (xs.map eStr)]).val =
  bif Nat.ble (((0 : Nat) + List.length (List.map eStr xs)) * (16 : Nat)) (140737488355328 : Nat) && List.all (List.map eStr xs) fun (r : Row) => Nat.beq (List.length r)
  (TI.mk false (1 : Nat) [] [AV.e0] (9 : Nat) (1 : Nat) (16 : Nat) [(vS (ByteArray.mk (Array.mk [])))] none (4 : Nat) []).esize then some (AV.sl (List.map eStr xs), []) else
  none := by kernel_rfl

def encCln1 (xs : List ByteArray) : List AV := [.sl (xs.map eStr)]

def encCln (a : (List ByteArray)) : List AV := encCln1 a

theorem encCln_inj (a a' : (List ByteArray)) (h : encCln a = encCln a') : a = a' := by
  simp only [encCln, encCln1] at h
  try simp [strs_inj, ints_inj, bools_inj, u8s_inj, eEnts_inj, eEnt_iff, eLsts_inj, eLst_iff, eSegs_inj, eSeg_iff, eRots_inj, eRot_iff, eBeats_inj, eBeat_iff, eSpans_inj, eSpan_iff, eHoles_inj, eHole_iff] at h
  grind

theorem unCln (xs : List ByteArray) : unenc encCln ([AV.sl (List.map eStr xs)]) = some (xs) := unenc_of encCln_inj (xs) rfl

def resCln1 (xs : List ByteArray) : AV × Heap := (.sl (xs.map eStr), [])

def preCln1 (xs : List ByteArray) : Bool := decide (xs.length * 16 ≤ 140737488355328)

noncomputable def oCln : Orc := orc 14 false encCln (fun a => preCln1 a) fun a => resCln1 a

theorem okCln : OrcOK Tryz.prog noG oCln := by
  refine orc_ok ⟨Tryz.f14, by kernel_rfl, by kernel_rfl, by kernel_rfl⟩ (fun xs hp _ => ?_) (by intro h; cases h)
  simp only [preCln1, decide_eq_true_eq] at hp
  have hb : Nat.ble (xs.length * 16) 140737488355328 = true := ble_t (by omega)
  show SpecP _ _ _ [.sl (xs.map eStr)] (.sl (xs.map eStr)) []
  refine SpecP.nil (fun e => ?_) ?_
  · have : xs = [] := by simpa using e
    subst this
    exact runF_sound (E := en0) en0_ok mixed (fn := Tryz.f14) (by kernel_rfl) (no_loops (by kernel_rfl)) (keep := false) evCln0
  · refine runF_sound (E := en0) en0_ok mixed (fn := Tryz.f14) (by kernel_rfl) (no_loops (by kernel_rfl)) (keep := false) ?_
    rw [evCln1]
    simp only [List.length_map, Nat.zero_add, hb, all_strs, Bool.and_true, cond_true, List.nil_append]

def stSmE (a : Ent) (b : Ent) (k : Nat) : St := ⟨[(5, vI k), (3, .ptr 3 0 0), (2, .ptr 2 0 0)], [(3, ⟨true, 0, 0, [eEnt b]⟩), (2, ⟨true, 0, 0, [eEnt a]⟩)]⟩

def stSmE1 (a : Ent × Ent × Nat) : St := stSmE a.1 a.2.1 a.2.2

theorem stSmE_inj (a a' : Ent × Ent × Nat) (h : stSmE1 a = stSmE1 a') : a = a' := by
  simp only [stSmE1, stSmE] at h
  try simp [strs_inj, ints_inj, bools_inj, u8s_inj, eEnts_inj, eEnt_iff, eLsts_inj, eLst_iff, eSegs_inj, eSeg_iff, eRots_inj, eRot_iff, eBeats_inj, eBeat_iff, eSpans_inj, eSpan_iff, eHoles_inj, eHole_iff] at h
  grind

theorem unstSmE (a : Ent) (b : Ent) (k : Nat) : unenc stSmE1 (St.mk [(5, (vI (↑k : Int))), (3, .ptr 3 0 0), (2, .ptr 2 0 0)] [(3, Blk.mk true 0 0 [[(vS b.uri), (vI b.milli), (vB b.brk), (vI b.date), (vS b.key), (vB b.gap), AV.sl
  (List.map eStr b.extra)]]), (2, Blk.mk true 0 0 [[(vS a.uri), (vI a.milli), (vB a.brk), (vI a.date), (vS a.key), (vB a.gap), AV.sl (List.map eStr a.extra)]])]) = some (a, b, k) := unenc_of stSmE_inj (a, b, k) rfl

theorem unstSmE0 (a : Ent) (b : Ent)  : unenc stSmE1 (St.mk [(5, (vI (0 : Int))), (3, .ptr 3 0 0), (2, .ptr 2 0 0)] [(3, Blk.mk true 0 0 [[(vS b.uri), (vI b.milli), (vB b.brk), (vI b.date), (vS b.key), (vB b.gap), AV.sl
  (List.map eStr b.extra)]]), (2, Blk.mk true 0 0 [[(vS a.uri), (vI a.milli), (vB a.brk), (vI a.date), (vS a.key), (vB a.gap), AV.sl (List.map eStr a.extra)]])]) = some (a, b, 0) := unenc_of stSmE_inj (a, b, 0) rfl

def outSmE (a : Ent) (b : Ent) (k : Nat) : T (Ex × St) := .ifB (F.sameSs ((a.extra.zip b.extra).drop k)) (.ret (.exit 0, ⟨[], []⟩)) (.ret (.ret, ⟨[(4, vB false)], []⟩))

noncomputable def prlSmE (a : Ent) (b : Ent) (k : Nat) : Bool := decide (a.extra.length ≤ 9223372036854775807) && decide (k ≤ a.extra.length) && decide (a.extra.length = b.extra.length)

noncomputable def lpSmE : Nat × (St → T (Ex × St)) := (4, lpo [5, 3, 2] [3, 2] stSmE1 (fun a => prlSmE a.1 a.2.1 a.2.2) fun a => outSmE a.1 a.2.1 a.2.2)

noncomputable def enSmE : Env := envH ty noG lks [] [] [] [lpSmE]

theorem enSmE_ok : EnvOK Tryz.prog enSmE := by
  refine envH_ok lks_ok ty_ok ?_ ?_
  · simp
  · simp

theorem evSmEL (a : Ent) (b : Ent) (k : Nat) : ((exec enSmE (loopN Tryz.f26 0) (stSmE a b k)).bind (lessX ([5, 3, 2], [3, 2]) ([], []) ([4], []))).val =
  bif decide ((↑k : Int) < (↑(List.length (List.map eStr a.extra)) : Int)) then Option.bind (unenc (List.map eStr) (List.map eStr a.extra)) fun (z : List ByteArray) => bif
  decide (k < List.length z) then Option.bind (unenc (List.map eStr) (List.map eStr b.extra)) fun (z_1 : List ByteArray) => bif decide (k < List.length z_1) then bif
  !ByteArray.toList (List.getD z k (ByteArray.mk (Array.mk []))) == ByteArray.toList (List.getD z_1 k (ByteArray.mk (Array.mk []))) then some (Ex.ret, St.mk [(4, (vB
  false))] []) else some (Ex.normal, St.mk [(5, (vI (IntKind.wrap IntKind.i64 ((↑k : Int) + (1 : Int))))), (3, .ptr 3 0 0), (2, .ptr 2 0 0)] [(3, Blk.mk true 0 0 [[(vS
  b.uri), (vI b.milli), (vB b.brk), (vI b.date), (vS b.key), (vB b.gap), AV.sl (List.map eStr b.extra)]]), (2, Blk.mk true 0 0 [[(vS a.uri), (vI a.milli), (vB a.brk), (vI
  a.date), (vS a.key), (vB a.gap), AV.sl (List.map eStr a.extra)]])]) else none else none else some (Ex.exit (0 : Nat), St.mk [] []) := by kernel_rfl

theorem lpSmE_ok (a : Ent) (b : Ent) (k : Nat) (hp : prlSmE a b k = true) : ∀ ex s', (outSmE a b k).val = some (ex, s') → LoopOK enSmE (loopN Tryz.f26 0) (stSmE a b k) ex s' := by
  simp only [prlSmE, Bool.and_eq_true, decide_eq_true_eq] at hp
  obtain ⟨⟨h1, h2⟩, h3⟩ := hp
  have hz : (a.extra.zip b.extra).length = a.extra.length := by rw [List.length_zip]; omega
  refine loop_all (xs := a.extra.zip b.extra) (st := stSmE a b) (p := fun p => F.seq p.1 p.2) (n := ([5, 3, 2], [3, 2])) (e := ([], [])) (r := ([4], [])) ?_ ⟨by simp, rfl⟩ ⟨by simp, rfl⟩ (fun _ => rfl) ?_ k (by omega)
  · rw [hz]; rw [evSmEL]; simp
  · intro k y hy
    obtain ⟨ha, hb⟩ := F.zip_at hy
    have hlt := lt_at ha
    have hlt' := lt_at hb
    rw [evSmEL]
    simp only [unstSmE, unstSmE0, prlSmE, outSmE, etaEnt, etaLst, etaSeg, etaRot, etaBeat, etaSpan, etaHole, Option.bind_some, List.length_map, unStrs, unInts, unBools, unU8s, unEnts, unLsts, unSegs, unRots, unBeats, unSpans, unHoles, F.lt, F.le, cond_true, cond_false, Bool.and_true, Bool.true_and, cast_lt hlt, decide_eq_true hlt, decide_eq_true hlt', next_at hlt h1, getD_at ha, getD_at hb, stSmE, eEnt, F.seq]
    simp only [Bool.cond_eq_ite]
    grind

theorem evSmE (a : Ent) (b : Ent) : (runF enSmE false Tryz.f26 [.agg (eEnt a), .agg (eEnt b)]).val =
  bif bif bif bif bif bif bif !ByteArray.toList a.uri == ByteArray.toList b.uri then true else a.milli != b.milli then true else !a.brk == b.brk then true else a.date !=
  b.date then true else !ByteArray.toList a.key == ByteArray.toList b.key then true else !a.gap == b.gap then true else (↑(List.length (List.map eStr a.extra)) : Int) !=
  (↑(List.length (List.map eStr b.extra)) : Int) then some ((vB false), []) else Option.bind (unenc stSmE1 (St.mk [(5, (vI (0 : Int))), (3, .ptr 3 0 0), (2, .ptr 2 0 0)]
  [(3, Blk.mk true 0 0 [[(vS b.uri), (vI b.milli), (vB b.brk), (vI b.date), (vS b.key), (vB b.gap), AV.sl (List.map eStr b.extra)]]), (2, Blk.mk true 0 0 [[(vS a.uri), (vI
  a.milli), (vB a.brk), (vI a.date), (vS a.key), (vB a.gap), AV.sl (List.map eStr a.extra)]])])) fun (z : Ent × Ent × Nat) => bif decide (List.length z.fst.extra ≤
  (9223372036854775807 : Nat)) && decide (z.snd.snd ≤ List.length z.fst.extra) && decide (List.length z.fst.extra = List.length z.snd.fst.extra) && true then bif F.sameSs
  (List.drop z.snd.snd (List.zip z.fst.extra z.snd.fst.extra)) then some ((vB true), []) else some ((vB false), []) else none := by kernel_rfl

def encSmE1 (a : Ent) (b : Ent) : List AV := [.agg (eEnt a), .agg (eEnt b)]

def encSmE (a : Ent × Ent) : List AV := encSmE1 a.1 a.2

theorem encSmE_inj (a a' : Ent × Ent) (h : encSmE a = encSmE a') : a = a' := by
  simp only [encSmE, encSmE1] at h
  try simp [strs_inj, ints_inj, bools_inj, u8s_inj, eEnts_inj, eEnt_iff, eLsts_inj, eLst_iff, eSegs_inj, eSeg_iff, eRots_inj, eRot_iff, eBeats_inj, eBeat_iff, eSpans_inj, eSpan_iff, eHoles_inj, eHole_iff] at h
  grind

theorem unSmE (a : Ent) (b : Ent) : unenc encSmE ([AV.agg [(vS a.uri), (vI a.milli), (vB a.brk), (vI a.date), (vS a.key), (vB a.gap), AV.sl (List.map eStr a.extra)], AV.agg [(vS b.uri), (vI b.milli), (vB b.brk), (vI
  b.date), (vS b.key), (vB b.gap), AV.sl (List.map eStr b.extra)]]) = some (a, b) := unenc_of encSmE_inj (a, b) rfl

theorem unSmEw (a_uri : ByteArray) (a_milli : Int) (a_brk : Bool) (a_date : Int) (a_key : ByteArray) (a_gap : Bool) (a_extra : List ByteArray) (b_uri : ByteArray) (b_milli : Int) (b_brk : Bool) (b_date : Int) (b_key : ByteArray) (b_gap : Bool) (b_extra : List ByteArray) : unenc encSmE ([AV.agg [(vS a_uri), (vI a_milli), (vB a_brk), (vI a_date), (vS a_key), (vB a_gap), AV.sl (List.map eStr a_extra)], AV.agg [(vS b_uri), (vI b_milli), (vB b_brk), (vI
  b_date), (vS b_key), (vB b_gap), AV.sl (List.map eStr b_extra)]]) = some ((Ent.mk a_uri a_milli a_brk a_date a_key a_gap a_extra), (Ent.mk b_uri b_milli b_brk b_date b_key b_gap b_extra)) := unenc_of encSmE_inj ((Ent.mk a_uri a_milli a_brk a_date a_key a_gap a_extra), (Ent.mk b_uri b_milli b_brk b_date b_key b_gap b_extra)) rfl

def resSmE1 (a : Ent) (b : Ent) : AV × Heap := (vB (F.sameE a b), [])

def preSmE1 (a : Ent) (b : Ent) : Bool := true

noncomputable def oSmE : Orc := orc 26 true encSmE (fun a => preSmE1 a.1 a.2) fun a => resSmE1 a.1 a.2

theorem okSmE : OrcOK Tryz.prog noG oSmE := by
  refine mk_ok Tryz.f26 (keep := false) (by kernel_rfl) (by kernel_rfl) enSmE_ok mixed (one_loop (x0 := loopN Tryz.f26 0) (by kernel_rfl) (lpo_ok ?_)) (by first | exact fun _ _ => ⟨rfl, rfl⟩ | (intro h; cases h)) ?_
  · rintro ⟨a, b, k⟩ hp
    exact lpSmE_ok a b k hp
  rintro ⟨a, b⟩ hpre hok
  show (runF enSmE false _ (encSmE1 _ _)).val = some (resSmE1 _ _)
  unfold encSmE1 resSmE1
  rw [evSmE]
  obtain ⟨hm, hx, _⟩ := ent_bounds (hok _ (List.mem_cons_self ..))
  simp only [unstSmE, unstSmE0, prlSmE, outSmE, etaEnt, etaLst, etaSeg, etaRot, etaBeat, etaSpan, etaHole, Option.bind_some, List.length_map, unStrs, unInts, unBools, unU8s, unEnts, unLsts, unSegs, unRots, unBeats, unSpans, unHoles, F.lt, F.le, cond_true, cond_false, Bool.and_true, Bool.true_and, F.sameE, F.seq, hx, List.drop_zero, Nat.zero_le, decide_true, F.cond_tl, len_eq, bne]
  cases a.uri.toList == b.uri.toList <;> cases a.milli == b.milli <;> cases a.brk == b.brk <;> cases a.date == b.date <;> cases a.key.toList == b.key.toList <;> cases a.gap == b.gap <;> try simp
  cases h : decide (a.extra.length = b.extra.length) <;> cases F.sameSs (a.extra.zip b.extra) <;> simp_all

end M
end Go.Proofs.YtlemjphdhapfpaaGreatDoor
