/- What is proved here: what Follows and a change of a list return on plain data (no statement of the seat). -/
import Derived.Test.YtkfhfjcgegimbaaE10
namespace Go.Proofs.Ytkfhfjcgegimbaa
open Go Go.RowKit
set_option linter.unusedVariables false
set_option linter.unusedSimpArgs false

def F.lt (a b : Int) : Bool := decide (a < b)

def F.le (a b : Int) : Bool := decide (a ≤ b)

def F.sameEL (a b : List Ent) : Bool := decide (a.length = b.length) && F.sameEs (a.zip b)

def F.sameSL (a b : List ByteArray) : Bool := decide (a.length = b.length) && F.sameSs (a.zip b)

/-- The numbers of breaks. -/
def F.bnS (a : Int × List Int) (e : Ent) : Int × List Int := bif e.brk then (IntKind.i64.wrap (a.1 + 1), a.2 ++ [IntKind.i64.wrap (a.1 + 1)]) else (a.1, a.2 ++ [a.1])

def F.bnA (b : Int) (acc : List Int) (l : List Ent) : List Int := (l.foldl F.bnS (b, acc)).2

def F.bn (l : Lst) : List Int := F.bnA l.breaks [] l.entries

theorem F.bnA_len : ∀ (l : List Ent) (b : Int) (acc : List Int), (F.bnA b acc l).length = acc.length + l.length
  | [], b, acc => by simp [F.bnA]
  | e :: l, b, acc => by
    show (F.bnA (F.bnS (b, acc) e).1 (F.bnS (b, acc) e).2 l).length = _
    rw [F.bnA_len l]
    simp only [F.bnS, List.length_cons]
    cases e.brk <;> simp <;> omega

theorem F.bn_len (l : Lst) : (F.bn l).length = l.entries.length := by simp [F.bn, F.bnA_len]

def F.endN (l : Lst) : Int := IntKind.i64.wrap (l.first + l.entries.length)

def F.folX (old now : Lst) : List ((Ent × Ent) × (Int × Int)) :=
  ((old.entries.drop (now.first - old.first).toNat).zip now.entries).zip (((F.bn old).drop (now.first - old.first).toNat).zip (F.bn now))

def F.folG (p : (Ent × Ent) × (Int × Int)) : Int := if F.sameE p.1.1 p.1.2 = false then 12 else if p.2.1 ≠ p.2.2 then 3 else 0

def F.folL (old now : Lst) (n : Int) : Int := M.ffI F.folG ((F.folX old now).drop (n - now.first).toNat)

def F.last (l : Lst) : Int := bif F.lt 0 (F.bn l).length then (F.bn l).getD ((F.bn l).length - 1) 0 else l.breaks

def F.fol (old now : Lst) : Int :=
  bif old.target != now.target then 6 else bif old.ended && !F.sameL old now then 11 else bif F.lt now.first old.first || F.lt (F.endN now) (F.endN old) then 8 else
  bif F.folL old now now.first != 0 then F.folL old now now.first else bif F.le (F.endN old) now.first && F.lt now.breaks (F.last old) then 8 else 0

def F.follows (old now : Lst) : Int := bif F.check old != 0 then F.check old else bif F.check now != 0 then F.check now else F.fol old now

/-- Lists of which one may follow the other one. -/
def F.folOK (old now : Lst) : Bool := decide (F.check old = 0) && decide (F.check now = 0) && F.le old.first now.first && F.le (F.endN old) (F.endN now)

theorem F.folOK_ok {old now : Lst} (h : F.folOK old now = true) : F.check old = 0 ∧ F.check now = 0 ∧ old.first ≤ now.first ∧ F.endN old ≤ F.endN now := by
  simp only [F.folOK, F.le, Bool.and_eq_true, decide_eq_true_eq] at h
  exact ⟨h.1.1.1, h.1.1.2, h.1.2, h.2⟩

theorem F.endN_def (l : Lst) : IntKind.i64.wrap (l.first + (l.entries.length : Int)) = F.endN l := rfl

theorem F.endN_eq {l : Lst} (h : F.check l = 0) : F.endN l = l.first + l.entries.length := by
  obtain ⟨h1, _, _, h2, _⟩ := F.check_ok h
  exact M.wrap_id (by omega) (by omega)

theorem F.folX_len (old now : Lst) : (F.folX old now).length = min (old.entries.length - (now.first - old.first).toNat) now.entries.length := by
  simp only [F.folX, List.length_zip, List.length_drop, F.bn_len]
  omega

theorem F.folX_at {old now : Lst} {k : Nat} {y : (Ent × Ent) × (Int × Int)} (h : (F.folX old now)[k]? = some y) :
    old.entries[(now.first - old.first).toNat + k]? = some y.1.1 ∧ now.entries[k]? = some y.1.2 ∧ (F.bn old)[(now.first - old.first).toNat + k]? = some y.2.1 ∧ (F.bn now)[k]? = some y.2.2 := by
  obtain ⟨h1, h2⟩ := F.zip_at h
  obtain ⟨a1, a2⟩ := F.zip_at h1
  obtain ⟨a3, a4⟩ := F.zip_at h2
  rw [List.getElem?_drop] at a1 a3
  exact ⟨a1, a2, a3, a4⟩

def F.orL (a b : Lst) (f : Int) : Lst := bif f != 0 then a else b

/-- A list after a change. -/
def F.turned (l : Lst) (t : Trn) : Lst :=
  bif t.kind == 0 then F.orL l (F.add l t.entry).1 (F.add l t.entry).2 else bif t.kind == 1 then F.orL l (F.slide l t.keep).1 (F.slide l t.keep).2.2 else
  bif t.kind == 2 then F.orL l (F.endL l).1 (F.endL l).2 else l

namespace M


def stEqS (a : List ByteArray) (b : List ByteArray) (k : Nat) : St := ⟨[(13, vI k), (12, vI a.length), (1, .sl (b.map eStr)), (0, .sl (a.map eStr))], []⟩

def stEqS1 (a : (List ByteArray) × (List ByteArray) × Nat) : St := stEqS a.1 a.2.1 a.2.2

theorem stEqS_inj (a a' : (List ByteArray) × (List ByteArray) × Nat) (h : stEqS1 a = stEqS1 a') : a = a' := by
  simp only [stEqS1, stEqS] at h
  try simp [strs_inj, ents_inj, eEnt_iff, eLst_iff, ints_inj, eTrn_iff] at h
  grind

theorem unstEqS (a : List ByteArray) (b : List ByteArray) (k : Nat) : unenc stEqS1 (St.mk [(13, (vI (↑k : Int))), (12, (vI (↑(List.length a) : Int))), (1, AV.sl (List.map eStr b)), (0, AV.sl (List.map eStr a))] []) = some (a, b, k) := unenc_of stEqS_inj (a, b, k) rfl

theorem unstEqS0 (a : List ByteArray) (b : List ByteArray) : unenc stEqS1 (St.mk [(13, (vI (0 : Int))), (12, (vI (↑(List.length a) : Int))), (1, AV.sl (List.map eStr b)), (0, AV.sl (List.map eStr a))] []) = some (a, b, 0) := unenc_of stEqS_inj (a, b, 0) rfl

def outEqS (a : List ByteArray) (b : List ByteArray) (k : Nat) : T (Ex × St) := .ifB (F.sameSs ((a.zip b).drop k)) (.ret (.exit 0, ⟨[], []⟩)) (.ret (.ret, ⟨[(4, vB false)], []⟩))

noncomputable def prlEqS (a : List ByteArray) (b : List ByteArray) (k : Nat) : Bool := decide (a.length ≤ 9223372036854775807) && decide (k ≤ a.length) && decide (a.length = b.length)

noncomputable def lpEqS : Nat × (St → T (Ex × St)) := (4, lpo [13, 12, 1, 0] [] stEqS1 (fun a => prlEqS a.1 a.2.1 a.2.2) fun a => outEqS a.1 a.2.1 a.2.2)

noncomputable def enEqS : Env := envH ty noG lks [] [] [] [lpEqS]

theorem enEqS_ok : EnvOK Try.prog enEqS := by
  refine envH_ok lks_ok ty_ok ?_ ?_
  · simp
  · simp

theorem evEqSL (a : List ByteArray) (b : List ByteArray) (k : Nat) : ((exec enEqS (loopN Try.f78 0) (stEqS a b k)).bind (lessX ([13, 12, 1, 0], []) ([], []) ([4], []))).val =
  bif decide ((↑k : Int) < (↑(List.length a) : Int)) then Option.bind (unenc (List.map eStr) (List.map eStr a)) fun (z : List ByteArray) => bif decide (k < List.length z)
  then Option.bind (unenc (List.map eStr) (List.map eStr b)) fun (z_1 : List ByteArray) => bif decide (k < List.length z_1) then bif !ByteArray.toList (List.getD z k
  (ByteArray.mk (Array.mk []))) == ByteArray.toList (List.getD z_1 k (ByteArray.mk (Array.mk []))) then some (Ex.ret, St.mk [(4, (vB false))] []) else some (Ex.normal, St.mk
  [(13, (vI (IntKind.wrap IntKind.i64 ((↑k : Int) + (1 : Int))))), (12, (vI (↑(List.length a) : Int))), (1, AV.sl (List.map eStr b)), (0, AV.sl (List.map eStr a))] []) else
  none else none else some (Ex.exit (0 : Nat), St.mk [] []) := by kernel_rfl

theorem lpEqS_ok (a : List ByteArray) (b : List ByteArray) (k : Nat) (hp : prlEqS a b k = true) : ∀ ex s', (outEqS a b k).val = some (ex, s') → LoopOK enEqS (loopN Try.f78 0) (stEqS a b k) ex s' := by
  simp only [prlEqS, Bool.and_eq_true, decide_eq_true_eq] at hp
  obtain ⟨⟨h1, h2⟩, h3⟩ := hp
  have hz : (a.zip b).length = a.length := by rw [List.length_zip]; omega
  refine loop_all (xs := a.zip b) (st := stEqS a b) (p := fun p => F.seq p.1 p.2) (n := ([13, 12, 1, 0], [])) (e := ([], [])) (r := ([4], [])) ?_ ⟨by simp, rfl⟩ ⟨by simp, rfl⟩ (fun _ => rfl) ?_ k (by omega)
  · rw [hz]; rw [evEqSL]; simp
  · intro k y hy
    obtain ⟨ha, hb⟩ := F.zip_at hy
    have hlt := lt_at ha
    have hlt' := lt_at hb
    rw [evEqSL]
    simp only [unstEqS, unstEqS0, prlEqS, outEqS, etaEnt, etaLst, Option.bind_some, List.length_map, unStrs, unInts, unBools, unEnts, unItms, unTrns, cond_true, cond_false, Bool.and_true, Bool.true_and, cast_lt hlt, decide_eq_true hlt, decide_eq_true hlt', next_at hlt h1, getD_at ha, getD_at hb, stEqS, F.seq, bne]
    cases (y.1.toList == y.2.toList) <;> rfl

theorem evEqS (a : List ByteArray) (b : List ByteArray) : (runF enEqS false Try.f78 [.sl (a.map eStr), .sl (b.map eStr)]).val =
  bif (↑(List.length (List.map eStr a)) : Int) != (↑(List.length (List.map eStr b)) : Int) then some ((vB false), []) else Option.bind (unenc stEqS1 (St.mk [(13, (vI (0 :
  Int))), (12, (vI (↑(List.length (List.map eStr a)) : Int))), (1, AV.sl (List.map eStr b)), (0, AV.sl (List.map eStr a))] [])) fun (z : List ByteArray × List ByteArray ×
  Nat) => bif decide (List.length z.fst ≤ (9223372036854775807 : Nat)) && decide (z.snd.snd ≤ List.length z.fst) && decide (List.length z.fst = List.length z.snd.fst) &&
  true then bif F.sameSs (List.drop z.snd.snd (List.zip z.fst z.snd.fst)) then some ((vB true), []) else some ((vB false), []) else none := by kernel_rfl

def encEqS1 (a : List ByteArray) (b : List ByteArray) : List AV := [.sl (a.map eStr), .sl (b.map eStr)]

def encEqS (a : (List ByteArray) × (List ByteArray)) : List AV := encEqS1 a.1 a.2

theorem encEqS_inj (a a' : (List ByteArray) × (List ByteArray)) (h : encEqS a = encEqS a') : a = a' := by
  simp only [encEqS, encEqS1] at h
  try simp [strs_inj, ents_inj, eEnt_iff, eLst_iff, ints_inj, eTrn_iff] at h
  grind

theorem unEqS (a : List ByteArray) (b : List ByteArray) : unenc encEqS ([AV.sl (List.map eStr a), AV.sl (List.map eStr b)]) = some (a, b) := unenc_of encEqS_inj (a, b) rfl

def resEqS1 (a : List ByteArray) (b : List ByteArray) : AV × Heap := (vB (F.sameSL a b), [])

def preEqS1 (a : List ByteArray) (b : List ByteArray) : Bool := true

noncomputable def oEqS : Orc := orc 78 true encEqS (fun a => preEqS1 a.1 a.2) fun a => resEqS1 a.1 a.2

theorem okEqS : OrcOK Try.prog noG oEqS := by
  refine mk_ok Try.f78 (keep := false) (by kernel_rfl) (by kernel_rfl) enEqS_ok mixed (one_loop (x0 := loopN Try.f78 0) (by kernel_rfl) (lpo_ok ?_)) (by first | exact fun _ _ => ⟨rfl, rfl⟩ | (intro h; cases h)) ?_
  · rintro ⟨a, b, k⟩ hp
    exact lpEqS_ok a b k hp
  rintro ⟨a, b⟩ hpre hok
  show (runF enEqS false _ (encEqS1 _ _)).val = some (resEqS1 _ _)
  unfold encEqS1 resEqS1
  rw [evEqS]
  have hx : a.length ≤ 9223372036854775807 := by simpa using (okA_sl (hok _ (List.mem_cons_self ..))).1
  simp only [unstEqS, unstEqS0, prlEqS, outEqS, etaEnt, etaLst, Option.bind_some, List.length_map, unStrs, unInts, unBools, unEnts, unItms, unTrns, cond_true, cond_false, Bool.and_true, Bool.true_and, F.sameSL, hx, List.drop_zero, Nat.zero_le, decide_true, F.len_eq, bne]
  cases decide (a.length = b.length) <;> cases F.sameSs (a.zip b) <;> rfl

noncomputable def enLsE : Env := envH ty noG lks [oEqS] [] [] []

theorem enLsE_ok : EnvOK Try.prog enLsE := by
  refine envH_ok lks_ok ty_ok ?_ ?_
  · simp only [List.forall_mem_cons]
    exact ⟨okEqS, by simp⟩
  · simp

theorem evLsE (a : Ent) (b : Ent) : (runF enLsE false Try.f69 [.agg (eEnt a), .agg (eEnt b)]).val =
  bif bif bif bif bif bif ByteArray.toList a.uri == ByteArray.toList b.uri then a.milli == b.milli else false then a.brk == b.brk else false then a.date == b.date else false
  then ByteArray.toList a.key == ByteArray.toList b.key else false then a.gap == b.gap else false then Option.bind (unenc encEqS [AV.sl (List.map eStr a.extra), AV.sl
  (List.map eStr b.extra)]) fun (z : List ByteArray × List ByteArray) => some ((vB (bif bif bif bif bif bif ByteArray.toList a.uri == ByteArray.toList b.uri then a.milli ==
  b.milli else false then a.brk == b.brk else false then a.date == b.date else false then ByteArray.toList a.key == ByteArray.toList b.key else false then a.gap == b.gap
  else false then F.sameSL z.fst z.snd else false)), []) else some ((vB false), []) := by kernel_rfl

def encLsE1 (a : Ent) (b : Ent) : List AV := [.agg (eEnt a), .agg (eEnt b)]

def encLsE (a : Ent × Ent) : List AV := encLsE1 a.1 a.2

theorem encLsE_inj (a a' : Ent × Ent) (h : encLsE a = encLsE a') : a = a' := by
  simp only [encLsE, encLsE1] at h
  try simp [strs_inj, ents_inj, eEnt_iff, eLst_iff, ints_inj, eTrn_iff] at h
  grind

theorem unLsE (a : Ent) (b : Ent) : unenc encLsE ([AV.agg [(vS a.uri), (vI a.milli), (vB a.brk), (vI a.date), (vS a.key), (vB a.gap), AV.sl (List.map eStr a.extra)], AV.agg [(vS b.uri), (vI b.milli), (vB b.brk), (vI
  b.date), (vS b.key), (vB b.gap), AV.sl (List.map eStr b.extra)]]) = some (a, b) := unenc_of encLsE_inj (a, b) rfl

theorem unLsEw (a_uri : ByteArray) (a_milli : Int) (a_brk : Bool) (a_date : Int) (a_key : ByteArray) (a_gap : Bool) (a_extra : List ByteArray) (b_uri : ByteArray) (b_milli : Int) (b_brk : Bool) (b_date : Int) (b_key : ByteArray) (b_gap : Bool) (b_extra : List ByteArray) : unenc encLsE ([AV.agg [(vS a_uri), (vI a_milli), (vB a_brk), (vI a_date), (vS a_key), (vB a_gap), AV.sl (List.map eStr a_extra)], AV.agg [(vS b_uri), (vI b_milli), (vB b_brk), (vI
  b_date), (vS b_key), (vB b_gap), AV.sl (List.map eStr b_extra)]]) = some ((Ent.mk a_uri a_milli a_brk a_date a_key a_gap a_extra), (Ent.mk b_uri b_milli b_brk b_date b_key b_gap b_extra)) := unenc_of encLsE_inj ((Ent.mk a_uri a_milli a_brk a_date a_key a_gap a_extra), (Ent.mk b_uri b_milli b_brk b_date b_key b_gap b_extra)) rfl

def resLsE1 (a : Ent) (b : Ent) : AV × Heap := (vB (F.sameE a b), [])

def preLsE1 (a : Ent) (b : Ent) : Bool := true

noncomputable def oLsE : Orc := orc 69 true encLsE (fun a => preLsE1 a.1 a.2) fun a => resLsE1 a.1 a.2

theorem okLsE : OrcOK Try.prog noG oLsE := by
  refine mk_ok Try.f69 (keep := false) (by kernel_rfl) (by kernel_rfl) enLsE_ok mixed (no_loops (by kernel_rfl)) (by first | exact fun _ _ => ⟨rfl, rfl⟩ | (intro h; cases h)) ?_
  rintro ⟨a, b⟩ hpre hok
  show (runF enLsE false _ (encLsE1 _ _)).val = some (resLsE1 _ _)
  unfold encLsE1 resLsE1
  rw [evLsE]
  simp only [unEqS, preEqS1, etaEnt, etaLst, Option.bind_some, List.length_map, unStrs, unInts, unBools, unEnts, unItms, unTrns, cond_true, cond_false, Bool.and_true, Bool.true_and, F.sameE, F.seq, F.sameSL, Bool.and_assoc]
  cases a.uri.toList == b.uri.toList <;> cases a.milli == b.milli <;> cases a.brk == b.brk <;> cases a.date == b.date <;> cases a.key.toList == b.key.toList <;> cases a.gap == b.gap <;> rfl

def stEqE (a : List Ent) (b : List Ent) (k : Nat) : St := ⟨[(17, vI k), (16, vI a.length), (15, .sl (a.map eEnt)), (2, .fn 69 []), (1, .sl (b.map eEnt))], []⟩

def stEqE1 (a : (List Ent) × (List Ent) × Nat) : St := stEqE a.1 a.2.1 a.2.2

theorem stEqE_inj (a a' : (List Ent) × (List Ent) × Nat) (h : stEqE1 a = stEqE1 a') : a = a' := by
  simp only [stEqE1, stEqE] at h
  try simp [strs_inj, ents_inj, eEnt_iff, eLst_iff, ints_inj, eTrn_iff] at h
  grind

theorem unstEqE (a : List Ent) (b : List Ent) (k : Nat) : unenc stEqE1 (St.mk [(17, (vI (↑k : Int))), (16, (vI (↑(List.length a) : Int))), (15, AV.sl (List.map eEnt a)), (2, AV.fn (69 : FuncId) []), (1, AV.sl (List.map eEnt b))] []) = some (a, b, k) := unenc_of stEqE_inj (a, b, k) rfl

theorem unstEqE0 (a : List Ent) (b : List Ent) : unenc stEqE1 (St.mk [(17, (vI (0 : Int))), (16, (vI (↑(List.length a) : Int))), (15, AV.sl (List.map eEnt a)), (2, AV.fn (69 : FuncId) []), (1, AV.sl (List.map eEnt b))] []) = some (a, b, 0) := unenc_of stEqE_inj (a, b, 0) rfl

def outEqE (a : List Ent) (b : List Ent) (k : Nat) : T (Ex × St) := .ifB (F.sameEs ((a.zip b).drop k)) (.ret (.exit 0, ⟨[], []⟩)) (.ret (.ret, ⟨[(6, vB false)], []⟩))

noncomputable def prlEqE (a : List Ent) (b : List Ent) (k : Nat) : Bool := decide (a.length ≤ 9223372036854775807) && decide (k ≤ a.length) && decide (a.length = b.length)

noncomputable def lpEqE : Nat × (St → T (Ex × St)) := (4, lpo [17, 16, 15, 2, 1] [] stEqE1 (fun a => prlEqE a.1 a.2.1 a.2.2) fun a => outEqE a.1 a.2.1 a.2.2)

noncomputable def enEqE : Env := envH ty noG lks [oLsE] [] [] [lpEqE]

theorem enEqE_ok : EnvOK Try.prog enEqE := by
  refine envH_ok lks_ok ty_ok ?_ ?_
  · simp only [List.forall_mem_cons]
    exact ⟨okLsE, by simp⟩
  · simp

theorem evEqEL (a : List Ent) (b : List Ent) (k : Nat) : ((exec enEqE (loopN Try.f77 0) (stEqE a b k)).bind (lessX ([17, 16, 15, 2, 1], []) ([], []) ([6], []))).val =
  bif decide ((↑k : Int) < (↑(List.length a) : Int)) then Option.bind (unenc (List.map eEnt) (List.map eEnt a)) fun (z : List Ent) => bif decide (k < List.length z) then
  Option.bind (unenc (List.map eEnt) (List.map eEnt b)) fun (z_1 : List Ent) => bif decide (k < List.length z_1) then Option.bind (unenc encLsE [AV.agg [(vS (List.getD z k
  (Ent.mk (ByteArray.mk (Array.mk [])) (0 : Int) false (0 : Int) (ByteArray.mk (Array.mk [])) false [])).uri), (vI (List.getD z k (Ent.mk (ByteArray.mk (Array.mk [])) (0 :
  Int) false (0 : Int) (ByteArray.mk (Array.mk [])) false [])).milli), (vB (List.getD z k (Ent.mk (ByteArray.mk (Array.mk [])) (0 : Int) false (0 : Int) (ByteArray.mk
  (Array.mk [])) false [])).brk), (vI (List.getD z k (Ent.mk (ByteArray.mk (Array.mk [])) (0 : Int) false (0 : Int) (ByteArray.mk (Array.mk [])) false [])).date), (vS
  (List.getD z k (Ent.mk (ByteArray.mk (Array.mk [])) (0 : Int) false (0 : Int) (ByteArray.mk (Array.mk [])) false [])).key), (vB (List.getD z k (Ent.mk (ByteArray.mk
  (Array.mk [])) (0 : Int) false (0 : Int) (ByteArray.mk (Array.mk [])) false [])).gap), AV.sl (List.map eStr (List.getD z k (Ent.mk (ByteArray.mk (Array.mk [])) (0 : Int)
  false (0 : Int) (ByteArray.mk (Array.mk [])) false [])).extra)], AV.agg [(vS (List.getD z_1 k (Ent.mk (ByteArray.mk (Array.mk [])) (0 : Int) false (0 : Int) (ByteArray.mk
  (Array.mk [])) false [])).uri), (vI (List.getD z_1 k (Ent.mk (ByteArray.mk (Array.mk [])) (0 : Int) false (0 : Int) (ByteArray.mk (Array.mk [])) false [])).milli), (vB
  (List.getD z_1 k (Ent.mk (ByteArray.mk (Array.mk [])) (0 : Int) false (0 : Int) (ByteArray.mk (Array.mk [])) false [])).brk), (vI (List.getD z_1 k (Ent.mk (ByteArray.mk
  (Array.mk [])) (0 : Int) false (0 : Int) (ByteArray.mk (Array.mk [])) false [])).date), (vS (List.getD z_1 k (Ent.mk (ByteArray.mk (Array.mk [])) (0 : Int) false (0 : Int)
  (ByteArray.mk (Array.mk [])) false [])).key), (vB (List.getD z_1 k (Ent.mk (ByteArray.mk (Array.mk [])) (0 : Int) false (0 : Int) (ByteArray.mk (Array.mk [])) false
  [])).gap), AV.sl (List.map eStr (List.getD z_1 k (Ent.mk (ByteArray.mk (Array.mk [])) (0 : Int) false (0 : Int) (ByteArray.mk (Array.mk [])) false [])).extra)]]) fun (z :
  Ent × Ent) => bif !F.sameE z.fst z.snd then some (Ex.ret, St.mk [(6, (vB false))] []) else some (Ex.normal, St.mk [(17, (vI (IntKind.wrap IntKind.i64 ((↑k : Int) + (1 :
  Int))))), (16, (vI (↑(List.length a) : Int))), (15, AV.sl (List.map eEnt a)), (2, AV.fn (69 : FuncId) []), (1, AV.sl (List.map eEnt b))] []) else none else none else some
  (Ex.exit (0 : Nat), St.mk [] []) := by kernel_rfl

theorem lpEqE_ok (a : List Ent) (b : List Ent) (k : Nat) (hp : prlEqE a b k = true) : ∀ ex s', (outEqE a b k).val = some (ex, s') → LoopOK enEqE (loopN Try.f77 0) (stEqE a b k) ex s' := by
  simp only [prlEqE, Bool.and_eq_true, decide_eq_true_eq] at hp
  obtain ⟨⟨h1, h2⟩, h3⟩ := hp
  have hz : (a.zip b).length = a.length := by rw [List.length_zip]; omega
  refine loop_all (xs := a.zip b) (st := stEqE a b) (p := fun p => F.sameE p.1 p.2) (n := ([17, 16, 15, 2, 1], [])) (e := ([], [])) (r := ([6], [])) ?_ ⟨by simp, rfl⟩ ⟨by simp, rfl⟩ (fun _ => rfl) ?_ k (by omega)
  · rw [hz]; rw [evEqEL]; simp
  · intro k y hy
    obtain ⟨ha, hb⟩ := F.zip_at hy
    have hlt := lt_at ha
    have hlt' := lt_at hb
    rw [evEqEL]
    simp only [unLsE, unLsEw, preLsE1, unstEqE, unstEqE0, prlEqE, outEqE, etaEnt, etaLst, Option.bind_some, List.length_map, unStrs, unInts, unBools, unEnts, unItms, unTrns, cond_true, cond_false, Bool.and_true, Bool.true_and, cast_lt hlt, decide_eq_true hlt, decide_eq_true hlt', next_at hlt h1, getD_at ha, getD_at hb, stEqE]
    cases F.sameE y.1 y.2 <;> rfl

theorem evEqE (a : List Ent) (b : List Ent) : (runF enEqE false Try.f77 [.sl (a.map eEnt), .sl (b.map eEnt), .fn 69 []]).val =
  bif (↑(List.length (List.map eEnt a)) : Int) != (↑(List.length (List.map eEnt b)) : Int) then some ((vB false), []) else Option.bind (unenc stEqE1 (St.mk [(17, (vI (0 :
  Int))), (16, (vI (↑(List.length (List.map eEnt a)) : Int))), (15, AV.sl (List.map eEnt a)), (2, AV.fn (69 : FuncId) []), (1, AV.sl (List.map eEnt b))] [])) fun (z : List
  Ent × List Ent × Nat) => bif decide (List.length z.fst ≤ (9223372036854775807 : Nat)) && decide (z.snd.snd ≤ List.length z.fst) && decide (List.length z.fst = List.length
  z.snd.fst) && true then bif F.sameEs (List.drop z.snd.snd (List.zip z.fst z.snd.fst)) then some ((vB true), []) else some ((vB false), []) else none := by kernel_rfl

def encEqE1 (a : List Ent) (b : List Ent) : List AV := [.sl (a.map eEnt), .sl (b.map eEnt), .fn 69 []]

def encEqE (a : (List Ent) × (List Ent)) : List AV := encEqE1 a.1 a.2

theorem encEqE_inj (a a' : (List Ent) × (List Ent)) (h : encEqE a = encEqE a') : a = a' := by
  simp only [encEqE, encEqE1] at h
  try simp [strs_inj, ents_inj, eEnt_iff, eLst_iff, ints_inj, eTrn_iff] at h
  grind

theorem unEqE (a : List Ent) (b : List Ent) : unenc encEqE ([AV.sl (List.map eEnt a), AV.sl (List.map eEnt b), AV.fn (69 : FuncId) []]) = some (a, b) := unenc_of encEqE_inj (a, b) rfl

def resEqE1 (a : List Ent) (b : List Ent) : AV × Heap := (vB (F.sameEL a b), [])

def preEqE1 (a : List Ent) (b : List Ent) : Bool := true

noncomputable def oEqE : Orc := orc 77 true encEqE (fun a => preEqE1 a.1 a.2) fun a => resEqE1 a.1 a.2

theorem okEqE : OrcOK Try.prog noG oEqE := by
  refine mk_ok Try.f77 (keep := false) (by kernel_rfl) (by kernel_rfl) enEqE_ok mixed (one_loop (x0 := loopN Try.f77 0) (by kernel_rfl) (lpo_ok ?_)) (by first | exact fun _ _ => ⟨rfl, rfl⟩ | (intro h; cases h)) ?_
  · rintro ⟨a, b, k⟩ hp
    exact lpEqE_ok a b k hp
  rintro ⟨a, b⟩ hpre hok
  show (runF enEqE false _ (encEqE1 _ _)).val = some (resEqE1 _ _)
  unfold encEqE1 resEqE1
  rw [evEqE]
  have hx : a.length ≤ 9223372036854775807 := by simpa using (okA_sl (hok _ (List.mem_cons_self ..))).1
  simp only [unLsE, unLsEw, preLsE1, unstEqE, unstEqE0, prlEqE, outEqE, etaEnt, etaLst, Option.bind_some, List.length_map, unStrs, unInts, unBools, unEnts, unItms, unTrns, cond_true, cond_false, Bool.and_true, Bool.true_and, F.sameEL, hx, List.drop_zero, Nat.zero_le, decide_true, F.len_eq, bne]
  cases decide (a.length = b.length) <;> cases F.sameEs (a.zip b) <;> rfl

noncomputable def enLsL : Env := envH ty noG lks [oEqE] [] [] []

theorem enLsL_ok : EnvOK Try.prog enLsL := by
  refine envH_ok lks_ok ty_ok ?_ ?_
  · simp only [List.forall_mem_cons]
    exact ⟨okEqE, by simp⟩
  · simp

theorem evLsL (a : Lst) (b : Lst) : (runF enLsL false Try.f68 [.agg (eLst a), .agg (eLst b)]).val =
  bif bif bif bif a.target == b.target then a.first == b.first else false then a.breaks == b.breaks else false then a.ended == b.ended else false then Option.bind (unenc
  encEqE [AV.sl (List.map eEnt a.entries), AV.sl (List.map eEnt b.entries), AV.fn (69 : Nat) []]) fun (z : List Ent × List Ent) => some ((vB (bif bif bif bif a.target ==
  b.target then a.first == b.first else false then a.breaks == b.breaks else false then a.ended == b.ended else false then F.sameEL z.fst z.snd else false)), []) else some
  ((vB false), []) := by kernel_rfl

def encLsL1 (a : Lst) (b : Lst) : List AV := [.agg (eLst a), .agg (eLst b)]

def encLsL (a : Lst × Lst) : List AV := encLsL1 a.1 a.2

theorem encLsL_inj (a a' : Lst × Lst) (h : encLsL a = encLsL a') : a = a' := by
  simp only [encLsL, encLsL1] at h
  try simp [strs_inj, ents_inj, eEnt_iff, eLst_iff, ints_inj, eTrn_iff] at h
  grind

theorem unLsL (a : Lst) (b : Lst) : unenc encLsL ([AV.agg [(vI a.target), (vI a.first), (vI a.breaks), AV.sl (List.map eEnt a.entries), (vB a.ended)], AV.agg [(vI b.target), (vI b.first), (vI b.breaks), AV.sl (List.map
  eEnt b.entries), (vB b.ended)]]) = some (a, b) := unenc_of encLsL_inj (a, b) rfl

theorem unLsLw (a_target : Int) (a_first : Int) (a_breaks : Int) (a_entries : List Ent) (a_ended : Bool) (b_target : Int) (b_first : Int) (b_breaks : Int) (b_entries : List Ent) (b_ended : Bool) : unenc encLsL ([AV.agg [(vI a_target), (vI a_first), (vI a_breaks), AV.sl (List.map eEnt a_entries), (vB a_ended)], AV.agg [(vI b_target), (vI b_first), (vI b_breaks), AV.sl (List.map
  eEnt b_entries), (vB b_ended)]]) = some ((Lst.mk a_target a_first a_breaks a_entries a_ended), (Lst.mk b_target b_first b_breaks b_entries b_ended)) := unenc_of encLsL_inj ((Lst.mk a_target a_first a_breaks a_entries a_ended), (Lst.mk b_target b_first b_breaks b_entries b_ended)) rfl

def resLsL1 (a : Lst) (b : Lst) : AV × Heap := (vB (F.sameL a b), [])

def preLsL1 (a : Lst) (b : Lst) : Bool := true

noncomputable def oLsL : Orc := orc 68 true encLsL (fun a => preLsL1 a.1 a.2) fun a => resLsL1 a.1 a.2

theorem okLsL : OrcOK Try.prog noG oLsL := by
  refine mk_ok Try.f68 (keep := false) (by kernel_rfl) (by kernel_rfl) enLsL_ok mixed (no_loops (by kernel_rfl)) (by first | exact fun _ _ => ⟨rfl, rfl⟩ | (intro h; cases h)) ?_
  rintro ⟨a, b⟩ hpre hok
  show (runF enLsL false _ (encLsL1 _ _)).val = some (resLsL1 _ _)
  unfold encLsL1 resLsL1
  rw [evLsL]
  simp only [unEqE, preEqE1, etaEnt, etaLst, Option.bind_some, List.length_map, unStrs, unInts, unBools, unEnts, unItms, unTrns, cond_true, cond_false, Bool.and_true, Bool.true_and, F.sameL, F.sameEL, Bool.and_assoc]
  cases a.target == b.target <;> cases a.first == b.first <;> cases a.breaks == b.breaks <;> cases a.ended == b.ended <;> rfl

def stBns (es : List Ent) (b : Int) (acc : List Int) (k : Nat) : St := ⟨[(12, vI k), (11, vI es.length), (10, .sl (es.map eEnt)), (4, .own 4), (3, vI b)], [(4, ⟨false, 3, 1, acc.map eI⟩)]⟩

def stBns1 (a : (List Ent) × Int × (List Int) × Nat) : St := stBns a.1 a.2.1 a.2.2.1 a.2.2.2

theorem stBns_inj (a a' : (List Ent) × Int × (List Int) × Nat) (h : stBns1 a = stBns1 a') : a = a' := by
  simp only [stBns1, stBns] at h
  try simp [strs_inj, ents_inj, eEnt_iff, eLst_iff, ints_inj, eTrn_iff] at h
  grind

theorem unstBns (es : List Ent) (b : Int) (acc : List Int) (k : Nat) : unenc stBns1 (St.mk [(12, (vI (↑k : Int))), (11, (vI (↑(List.length es) : Int))), (10, AV.sl (List.map eEnt es)), (4, .own 4), (3, (vI b))] [(4, Blk.mk false 3 1 (List.map eI acc))]) = some (es, b, acc, k) := unenc_of stBns_inj (es, b, acc, k) rfl

theorem unstBns0 (es : List Ent) (b : Int) : unenc stBns1 (St.mk [(12, (vI (0 : Int))), (11, (vI (↑(List.length es) : Int))), (10, AV.sl (List.map eEnt es)), (4, .own 4), (3, (vI b))] [(4, Blk.mk false 3 1 [])]) = some (es, b, [], 0) := unenc_of stBns_inj (es, b, [], 0) rfl

def outBns (es : List Ent) (b : Int) (acc : List Int) (k : Nat) : T (Ex × St) := .ret (.exit 0, ⟨[(4, .own 4)], [(4, ⟨false, 3, 1, (F.bnA b acc (es.drop k)).map eI⟩)]⟩)

noncomputable def prlBns (es : List Ent) (b : Int) (acc : List Int) (k : Nat) : Bool := decide (es.length ≤ 100000) && decide (k ≤ es.length) && decide (acc.length ≤ k)

noncomputable def lpBns : Nat × (St → T (Ex × St)) := (4, lpo [12, 11, 10, 4, 3] [4] stBns1 (fun a => prlBns a.1 a.2.1 a.2.2.1 a.2.2.2) fun a => outBns a.1 a.2.1 a.2.2.1 a.2.2.2)

noncomputable def enBns : Env := envH ty noG lks [] [] [] [lpBns]

theorem enBns_ok : EnvOK Try.prog enBns := by
  refine envH_ok lks_ok ty_ok ?_ ?_
  · simp
  · simp

theorem appInts (xs : List Int) (n : Int) : xs.map eI ++ [[vI n]] = (xs ++ [n]).map eI := by simp [eI]

theorem evBnsL (es : List Ent) (b : Int) (acc : List Int) (k : Nat) : ((exec enBns (loopN Try.f52 0) (stBns es b acc k)).bind (lessX ([12, 11, 10, 4, 3], [4]) ([4], [4]) ([], []))).val =
  bif decide ((↑k : Int) < (↑(List.length es) : Int)) then Option.bind (unenc (List.map eEnt) (List.map eEnt es)) fun (z : List Ent) => bif decide (k < List.length z) then
  bif (List.getD z k (Ent.mk (ByteArray.mk (Array.mk [])) (0 : Int) false (0 : Int) (ByteArray.mk (Array.mk [])) false [])).brk then bif Nat.ble ((List.length (List.map eI
  acc) + (1 : Nat)) * (8 : Nat)) (140737488355328 : Nat) && true then some (Ex.normal, St.mk [(12, (vI (IntKind.wrap IntKind.i64 ((↑k : Int) + (1 : Int))))), (11, (vI
  (↑(List.length es) : Int))), (10, AV.sl (List.map eEnt es)), (4, .own 4), (3, (vI (IntKind.wrap IntKind.i64 (b + (1 : Int)))))] [(4, Blk.mk false 3 1 (List.map eI acc ++
  [[(vI (IntKind.wrap IntKind.i64 (b + (1 : Int))))]]))]) else none else bif Nat.ble ((List.length (List.map eI acc) + (1 : Nat)) * (8 : Nat)) (140737488355328 : Nat) &&
  true then some (Ex.normal, St.mk [(12, (vI (IntKind.wrap IntKind.i64 ((↑k : Int) + (1 : Int))))), (11, (vI (↑(List.length es) : Int))), (10, AV.sl (List.map eEnt es)), (4,
  .own 4), (3, (vI b))] [(4, Blk.mk false 3 1 (List.map eI acc ++ [[(vI b)]]))]) else none else none else some (Ex.exit (0 : Nat), St.mk [(4, .own 4)] [(4, Blk.mk false 3 1
  (List.map eI acc))]) := by kernel_rfl

theorem lpBns_ok (es : List Ent) (b : Int) (acc : List Int) (k : Nat) (hp : prlBns es b acc k = true) : ∀ ex s', (outBns es b acc k).val = some (ex, s') → LoopOK enBns (loopN Try.f52 0) (stBns es b acc k) ex s' := by
  simp only [prlBns, Bool.and_eq_true, decide_eq_true_eq] at hp
  obtain ⟨⟨h1, h2⟩, h3⟩ := hp
  refine loop_fold (xs := es) (st := fun a k => stBns es a.1 a.2 k) (f := F.bnS) (fin := fun a => (.exit 0, ⟨[(4, .own 4)], [(4, ⟨false, 3, 1, a.2.map eI⟩)]⟩)) (I := fun a k => a.2.length ≤ k) (n := ([12, 11, 10, 4, 3], [4])) (e := ([4], [4])) (r := ([], [])) ?_ (fun _ => ⟨by simp, rfl⟩) (fun _ _ => rfl) ?_ (b, acc) k h2 h3
  · rintro ⟨b, acc⟩ _
    rw [evBnsL]; simp
  · rintro ⟨b, acc⟩ k y hy hI
    simp only at hI
    have hlt := lt_at hy
    have hroom : Nat.ble ((acc.length + 1) * 8) 140737488355328 = true := ble_t (by omega)
    refine ⟨?_, ?_⟩
    · rw [evBnsL]
      simp only [unstBns, unstBns0, prlBns, outBns, etaEnt, etaLst, Option.bind_some, List.length_map, unStrs, unInts, unBools, unEnts, unItms, unTrns, cond_true, cond_false, Bool.and_true, Bool.true_and, cast_lt hlt, decide_eq_true hlt, next_at hlt (by omega : es.length ≤ 9223372036854775807), getD_at hy, stBns, hroom, F.bnS, appInts]
      cases y.brk <;> rfl
    · simp only [F.bnS]
      cases y.brk <;> simp <;> omega

theorem evBns (l : Lst) : (runF enBns false Try.f52 [.agg (eLst l)]).val =
  Option.bind (unenc stBns1 (St.mk [(12, (vI (0 : Int))), (11, (vI (↑(List.length (List.map eEnt l.entries)) : Int))), (10, AV.sl (List.map eEnt l.entries)), (4, .own 4),
  (3, (vI l.breaks))] [(4, Blk.mk false 3 1 [])])) fun (z : List Ent × Int × List Int × Nat) => bif decide (List.length z.fst ≤ (100000 : Nat)) && decide (z.snd.snd.snd ≤
  List.length z.fst) && decide (List.length z.snd.snd.fst ≤ z.snd.snd.snd) && true then some (AV.sl (List.map eI (F.bnA z.snd.fst z.snd.snd.fst (List.drop z.snd.snd.snd
  z.fst))), []) else none := by kernel_rfl

def encBns1 (l : Lst) : List AV := [.agg (eLst l)]

def encBns (a : Lst) : List AV := encBns1 a

theorem encBns_inj (a a' : Lst) (h : encBns a = encBns a') : a = a' := by
  simp only [encBns, encBns1] at h
  try simp [strs_inj, ents_inj, eEnt_iff, eLst_iff, ints_inj, eTrn_iff] at h
  grind

theorem unBns (l : Lst) : unenc encBns ([AV.agg [(vI l.target), (vI l.first), (vI l.breaks), AV.sl (List.map eEnt l.entries), (vB l.ended)]]) = some (l) := unenc_of encBns_inj (l) rfl

theorem unBnsw (l_target : Int) (l_first : Int) (l_breaks : Int) (l_entries : List Ent) (l_ended : Bool) : unenc encBns ([AV.agg [(vI l_target), (vI l_first), (vI l_breaks), AV.sl (List.map eEnt l_entries), (vB l_ended)]]) = some ((Lst.mk l_target l_first l_breaks l_entries l_ended)) := unenc_of encBns_inj ((Lst.mk l_target l_first l_breaks l_entries l_ended)) rfl

def resBns1 (l : Lst) : AV × Heap := (.sl ((F.bn l).map eI), [])

def preBns1 (l : Lst) : Bool := decide (l.entries.length ≤ 100000)

noncomputable def oBns : Orc := orc 52 false encBns (fun a => preBns1 a) fun a => resBns1 a

theorem okBns : OrcOK Try.prog noG oBns := by
  refine mk_ok Try.f52 (keep := false) (by kernel_rfl) (by kernel_rfl) enBns_ok mixed (one_loop (x0 := loopN Try.f52 0) (by kernel_rfl) (lpo_ok ?_)) (by first | exact fun _ _ => ⟨rfl, rfl⟩ | (intro h; cases h)) ?_
  · rintro ⟨es, b, acc, k⟩ hp
    exact lpBns_ok es b acc k hp
  rintro l hpre hok
  show (runF enBns false _ (encBns1 _)).val = some (resBns1 _)
  unfold encBns1 resBns1
  rw [evBns]
  simp only [preBns1, decide_eq_true_eq] at hpre
  simp only [unstBns, unstBns0, prlBns, outBns, etaEnt, etaLst, Option.bind_some, List.length_map, unStrs, unInts, unBools, unEnts, unItms, unTrns, cond_true, cond_false, Bool.and_true, Bool.true_and, List.drop_zero, Nat.zero_le, decide_true, F.bn, List.length_nil, List.map_nil, hpre]

def stFst (l : List Int) (k : Nat) : St := ⟨[(7, vI k), (6, vI l.length), (5, .sl (l.map eI))], []⟩

def stFst1 (a : (List Int) × Nat) : St := stFst a.1 a.2

theorem stFst_inj (a a' : (List Int) × Nat) (h : stFst1 a = stFst1 a') : a = a' := by
  simp only [stFst1, stFst] at h
  try simp [strs_inj, ents_inj, eEnt_iff, eLst_iff, ints_inj, eTrn_iff] at h
  grind

theorem unstFst (l : List Int) (k : Nat) : unenc stFst1 (St.mk [(7, (vI (↑k : Int))), (6, (vI (↑(List.length l) : Int))), (5, AV.sl (List.map eI l))] []) = some (l, k) := unenc_of stFst_inj (l, k) rfl

theorem unstFst0 (l : List Int) : unenc stFst1 (St.mk [(7, (vI (0 : Int))), (6, (vI (↑(List.length l) : Int))), (5, AV.sl (List.map eI l))] []) = some (l, 0) := unenc_of stFst_inj (l, 0) rfl

def outFst (l : List Int) (k : Nat) : T (Ex × St) := .ifB (decide (M.ffI id (l.drop k) = 0)) (.ret (.exit 0, ⟨[], []⟩)) (.ret (.ret, ⟨[(2, vI (M.ffI id (l.drop k)))], []⟩))

noncomputable def prlFst (l : List Int) (k : Nat) : Bool := decide (l.length ≤ 9223372036854775807) && decide (k ≤ l.length)

noncomputable def lpFst : Nat × (St → T (Ex × St)) := (2, lpo [7, 6, 5] [] stFst1 (fun a => prlFst a.1 a.2) fun a => outFst a.1 a.2)

noncomputable def enFst : Env := envH ty noG lks [] [] [] [lpFst]

theorem enFst_ok : EnvOK Try.prog enFst := by
  refine envH_ok lks_ok ty_ok ?_ ?_
  · simp
  · simp

theorem evFstL (l : List Int) (k : Nat) : ((exec enFst (loopN Try.f49 0) (stFst l k)).bind (lessX ([7, 6, 5], []) ([], []) ([2], []))).val =
  bif decide ((↑k : Int) < (↑(List.length l) : Int)) then Option.bind (unenc (List.map eI) (List.map eI l)) fun (z : List Int) => bif decide (k < List.length z) then bif
  List.getD z k (0 : Int) != (0 : Int) then some (Ex.ret, St.mk [(2, (vI (List.getD z k (0 : Int))))] []) else some (Ex.normal, St.mk [(7, (vI (IntKind.wrap IntKind.i64 ((↑k
  : Int) + (1 : Int))))), (6, (vI (↑(List.length l) : Int))), (5, AV.sl (List.map eI l))] []) else none else some (Ex.exit (0 : Nat), St.mk [] []) := by kernel_rfl

theorem lpFst_ok (l : List Int) (k : Nat) (hp : prlFst l k = true) : ∀ ex s', (outFst l k).val = some (ex, s') → LoopOK enFst (loopN Try.f49 0) (stFst l k) ex s' := by
  simp only [prlFst, Bool.and_eq_true, decide_eq_true_eq] at hp
  refine loop_code (xs := l) (st := stFst l) (g := id) (o := fun c => (.ret, ⟨[(2, vI c)], []⟩)) (n := ([7, 6, 5], [])) (e := ([], [])) (r := ([2], [])) ?_ ⟨by simp, rfl⟩ (fun _ => ⟨by simp, rfl⟩) (fun _ => rfl) ?_ k hp.2
  · rw [evFstL]; simp
  · intro k y hy
    have hlt := lt_at hy
    rw [evFstL]
    simp only [unstFst, unstFst0, prlFst, outFst, etaEnt, etaLst, Option.bind_some, List.length_map, unStrs, unInts, unBools, unEnts, unItms, unTrns, cond_true, cond_false, Bool.and_true, Bool.true_and, cast_lt hlt, decide_eq_true hlt, next_at hlt hp.1, getD_at hy, stFst]
    by_cases h : y = 0
    · subst h; rfl
    · have hb : (y != 0) = true := by simp [h]
      simp only [hb, cond_true, id, h, if_false]

theorem evFst (l : List Int) : (runF enFst false Try.f49 [.sl (l.map eI)]).val =
  Option.bind (unenc stFst1 (St.mk [(7, (vI (0 : Int))), (6, (vI (↑(List.length (List.map eI l)) : Int))), (5, AV.sl (List.map eI l))] [])) fun (z : List Int × Nat) => bif
  decide (List.length z.fst ≤ (9223372036854775807 : Nat)) && decide (z.snd ≤ List.length z.fst) && true then bif decide (ffI id (List.drop z.snd z.fst) = (0 : Int)) then
  some ((vI (0 : Int)), []) else some ((vI (ffI id (List.drop z.snd z.fst))), []) else none := by kernel_rfl

def encFst1 (l : List Int) : List AV := [.sl (l.map eI)]

def encFst (a : (List Int)) : List AV := encFst1 a

theorem encFst_inj (a a' : (List Int)) (h : encFst a = encFst a') : a = a' := by
  simp only [encFst, encFst1] at h
  try simp [strs_inj, ents_inj, eEnt_iff, eLst_iff, ints_inj, eTrn_iff] at h
  grind

theorem unFst (l : List Int) : unenc encFst ([AV.sl (List.map eI l)]) = some (l) := unenc_of encFst_inj (l) rfl

def resFst1 (l : List Int) : AV × Heap := (vI (M.ffI id l), [])

def preFst1 (l : List Int) : Bool := true

noncomputable def oFst : Orc := orc 49 true encFst (fun a => preFst1 a) fun a => resFst1 a

theorem okFst : OrcOK Try.prog noG oFst := by
  refine mk_ok Try.f49 (keep := false) (by kernel_rfl) (by kernel_rfl) enFst_ok mixed (one_loop (x0 := loopN Try.f49 0) (by kernel_rfl) (lpo_ok ?_)) (by first | exact fun _ _ => ⟨rfl, rfl⟩ | (intro h; cases h)) ?_
  · rintro ⟨l, k⟩ hp
    exact lpFst_ok l k hp
  rintro l hpre hok
  show (runF enFst false _ (encFst1 _)).val = some (resFst1 _)
  unfold encFst1 resFst1
  rw [evFst]
  have hx : l.length ≤ 9223372036854775807 := by simpa using (okA_sl (hok _ (List.mem_cons_self ..))).1
  simp only [unstFst, unstFst0, prlFst, outFst, etaEnt, etaLst, Option.bind_some, List.length_map, unStrs, unInts, unBools, unEnts, unItms, unTrns, cond_true, cond_false, Bool.and_true, Bool.true_and, hx, List.drop_zero, Nat.zero_le, decide_true]
  by_cases h : M.ffI id l = 0 <;> simp [h]

noncomputable def enTrd : Env := envH ty noG lks [oAdd, oSld, oEnd] [] [] []

theorem enTrd_ok : EnvOK Try.prog enTrd := by
  refine envH_ok lks_ok ty_ok ?_ ?_
  · simp only [List.forall_mem_cons]
    exact ⟨okAdd, okSld, okEnd, by simp⟩
  · simp

theorem evTrd (l : Lst) (t : Trn) : (runF enTrd false Try.f29 [.agg (eLst l), .agg (eTrn t)]).val =
  bif t.kind == (0 : Int) then Option.bind (unenc encAdd [AV.agg [(vI l.target), (vI l.first), (vI l.breaks), AV.sl (List.map eEnt l.entries), (vB l.ended)], AV.agg [(vS
  t.entry.uri), (vI t.entry.milli), (vB t.entry.brk), (vI t.entry.date), (vS t.entry.key), (vB t.entry.gap), AV.sl (List.map eStr t.entry.extra)]]) fun (z : Lst × Ent) =>
  bif decide (List.length z.snd.extra * (16 : Nat) ≤ (140737488355328 : Nat)) then bif (F.add z.fst z.snd).snd != (0 : Int) then some (AV.agg [(vI l.target), (vI l.first),
  (vI l.breaks), AV.sl (List.map eEnt l.entries), (vB l.ended)], []) else some (AV.agg [(vI (F.add z.fst z.snd).fst.target), (vI (F.add z.fst z.snd).fst.first), (vI (F.add
  z.fst z.snd).fst.breaks), AV.sl (List.map eEnt (F.add z.fst z.snd).fst.entries), (vB (F.add z.fst z.snd).fst.ended)], []) else none else bif t.kind == (1 : Int) then
  Option.bind (unenc encSld [AV.agg [(vI l.target), (vI l.first), (vI l.breaks), AV.sl (List.map eEnt l.entries), (vB l.ended)], (vI t.keep)]) fun (z : Lst × Int) => bif
  (F.slide z.fst z.snd).snd.snd != (0 : Int) then some (AV.agg [(vI l.target), (vI l.first), (vI l.breaks), AV.sl (List.map eEnt l.entries), (vB l.ended)], []) else some
  (AV.agg [(vI (F.slide z.fst z.snd).fst.target), (vI (F.slide z.fst z.snd).fst.first), (vI (F.slide z.fst z.snd).fst.breaks), AV.sl (List.map eEnt (F.slide z.fst
  z.snd).fst.entries), (vB (F.slide z.fst z.snd).fst.ended)], []) else bif t.kind == (2 : Int) then Option.bind (unenc encEnd [AV.agg [(vI l.target), (vI l.first), (vI
  l.breaks), AV.sl (List.map eEnt l.entries), (vB l.ended)]]) fun (z : Lst) => bif (F.endL z).snd != (0 : Int) then some (AV.agg [(vI l.target), (vI l.first), (vI l.breaks),
  AV.sl (List.map eEnt l.entries), (vB l.ended)], []) else some (AV.agg [(vI (F.endL z).fst.target), (vI (F.endL z).fst.first), (vI (F.endL z).fst.breaks), AV.sl (List.map
  eEnt (F.endL z).fst.entries), (vB (F.endL z).fst.ended)], []) else some (AV.agg [(vI l.target), (vI l.first), (vI l.breaks), AV.sl (List.map eEnt l.entries), (vB
  l.ended)], []) := by kernel_rfl

def encTrd1 (l : Lst) (t : Trn) : List AV := [.agg (eLst l), .agg (eTrn t)]

def encTrd (a : Lst × Trn) : List AV := encTrd1 a.1 a.2

theorem encTrd_inj (a a' : Lst × Trn) (h : encTrd a = encTrd a') : a = a' := by
  simp only [encTrd, encTrd1] at h
  try simp [strs_inj, ents_inj, eEnt_iff, eLst_iff, ints_inj, eTrn_iff] at h
  grind

theorem unTrd (l : Lst) (t : Trn) : unenc encTrd ([AV.agg [(vI l.target), (vI l.first), (vI l.breaks), AV.sl (List.map eEnt l.entries), (vB l.ended)], AV.agg [(vI t.kind), (vS t.entry.uri), (vI t.entry.milli), (vB
  t.entry.brk), (vI t.entry.date), (vS t.entry.key), (vB t.entry.gap), AV.sl (List.map eStr t.entry.extra), (vI t.keep)]]) = some (l, t) := unenc_of encTrd_inj (l, t) rfl

theorem unTrdw (l_target : Int) (l_first : Int) (l_breaks : Int) (l_entries : List Ent) (l_ended : Bool) (t : Trn) : unenc encTrd ([AV.agg [(vI l_target), (vI l_first), (vI l_breaks), AV.sl (List.map eEnt l_entries), (vB l_ended)], AV.agg [(vI t.kind), (vS t.entry.uri), (vI t.entry.milli), (vB
  t.entry.brk), (vI t.entry.date), (vS t.entry.key), (vB t.entry.gap), AV.sl (List.map eStr t.entry.extra), (vI t.keep)]]) = some ((Lst.mk l_target l_first l_breaks l_entries l_ended), t) := unenc_of encTrd_inj ((Lst.mk l_target l_first l_breaks l_entries l_ended), t) rfl

def resTrd1 (l : Lst) (t : Trn) : AV × Heap := (.agg (eLst (F.turned l t)), [])

def preTrd1 (l : Lst) (t : Trn) : Bool := decide (t.entry.extra.length * 16 ≤ 140737488355328)

noncomputable def oTrd : Orc := orc 29 false encTrd (fun a => preTrd1 a.1 a.2) fun a => resTrd1 a.1 a.2

theorem okTrd : OrcOK Try.prog noG oTrd := by
  refine mk_ok Try.f29 (keep := false) (by kernel_rfl) (by kernel_rfl) enTrd_ok mixed (no_loops (by kernel_rfl)) (by first | exact fun _ _ => ⟨rfl, rfl⟩ | (intro h; cases h)) ?_
  rintro ⟨l, t⟩ hpre hok
  show (runF enTrd false _ (encTrd1 _ _)).val = some (resTrd1 _ _)
  unfold encTrd1 resTrd1
  rw [evTrd]
  simp only [preTrd1] at hpre
  simp only [unAdd, unSld, unEnd, unAddw, unSldw, unEndw, preAdd1, preSld1, preEnd1, etaEnt, etaLst, Option.bind_some, List.length_map, unStrs, unInts, unBools, unEnts, unItms, unTrns, cond_true, cond_false, Bool.and_true, Bool.true_and, hpre, F.turned, F.orL]
  cases (t.kind == 0)
  · cases (t.kind == 1)
    · cases (t.kind == 2)
      · rfl
      · cases (F.endL l).2 != 0 <;> rfl
    · cases (F.slide l t.keep).2.2 != 0 <;> rfl
  · cases (F.add l t.entry).2 != 0 <;> rfl

def stFol (old : Lst) (now : Lst) (n : Int) : St := ⟨[(9, vI n), (8, .sl ((F.bn now).map eI)), (7, .sl ((F.bn old).map eI)), (5, vI (F.endN old)), (3, .ptr 3 0 0), (2, .ptr 2 0 0)], [(3, ⟨true, 0, 0, [eLst now]⟩), (2, ⟨true, 0, 0, [eLst old]⟩)]⟩

def stFol1 (a : Lst × Lst × Int) : St := stFol a.1 a.2.1 a.2.2

theorem stFol_inj (a a' : Lst × Lst × Int) (h : stFol1 a = stFol1 a') : a = a' := by
  simp only [stFol1, stFol] at h
  try simp [strs_inj, ents_inj, eEnt_iff, eLst_iff, ints_inj, eTrn_iff] at h
  grind

theorem unstFol (old : Lst) (now : Lst) (n : Int) : unenc stFol1 (St.mk [(9, (vI n)), (8, AV.sl (List.map eI (F.bn now))), (7, AV.sl (List.map eI (F.bn old))), (5, (vI (F.endN old))), (3, .ptr 3 0 0), (2, .ptr 2 0 0)] [(3, Blk.mk true 0
  0 [[(vI now.target), (vI now.first), (vI now.breaks), AV.sl (List.map eEnt now.entries), (vB now.ended)]]), (2, Blk.mk true 0 0 [[(vI old.target), (vI old.first), (vI
  old.breaks), AV.sl (List.map eEnt old.entries), (vB old.ended)]])]) = some (old, now, n) := unenc_of stFol_inj (old, now, n) rfl

def outFol (old : Lst) (now : Lst) (n : Int) : T (Ex × St) := .ifB (decide (F.folL old now n = 0)) (.ret (.exit 1, ⟨[(7, .sl ((F.bn old).map eI)), (5, vI (F.endN old)), (3, .ptr 3 0 0), (2, .ptr 2 0 0)], [(3, ⟨true, 0, 0, [eLst now]⟩), (2, ⟨true, 0, 0, [eLst old]⟩)]⟩)) (.ret (.ret, ⟨[(4, vI (F.folL old now n))], []⟩))

noncomputable def prlFol (old : Lst) (now : Lst) (n : Int) : Bool := F.folOK old now && F.le now.first n && F.le n (max now.first (F.endN old))

noncomputable def lpFol : Nat × (St → T (Ex × St)) := (10, lpo [9, 8, 7, 5, 3, 2] [3, 2] stFol1 (fun a => prlFol a.1 a.2.1 a.2.2) fun a => outFol a.1 a.2.1 a.2.2)

noncomputable def enFol : Env := envH ty noG lks [oLsL, oBns, oLsE] [] [] [lpFol]

theorem enFol_ok : EnvOK Try.prog enFol := by
  refine envH_ok lks_ok ty_ok ?_ ?_
  · simp only [List.forall_mem_cons]
    exact ⟨okLsL, okBns, okLsE, by simp⟩
  · simp

theorem evFolL (old : Lst) (now : Lst) (n : Int) : ((exec enFol (loopN Try.f50 0) (stFol old now n)).bind (lessX ([9, 8, 7, 5, 3, 2], [3, 2]) ([7, 5, 3, 2], [3, 2]) ([4], []))).val =
  bif decide (n < F.endN old) then Option.bind (idx (IntKind.wrap IntKind.i64 (n - old.first))) fun (z : Nat) => Option.bind (unenc (List.map eEnt) (List.map eEnt
  old.entries)) fun (z_1 : List Ent) => bif decide (z < List.length z_1) then Option.bind (idx (IntKind.wrap IntKind.i64 (n - now.first))) fun (z_2 : Nat) => Option.bind
  (unenc (List.map eEnt) (List.map eEnt now.entries)) fun (z_3 : List Ent) => bif decide (z_2 < List.length z_3) then Option.bind (unenc encLsE [AV.agg [(vS (List.getD z_1 z
  (Ent.mk (ByteArray.mk (Array.mk [])) (0 : Int) false (0 : Int) (ByteArray.mk (Array.mk [])) false [])).uri), (vI (List.getD z_1 z (Ent.mk (ByteArray.mk (Array.mk [])) (0 :
  Int) false (0 : Int) (ByteArray.mk (Array.mk [])) false [])).milli), (vB (List.getD z_1 z (Ent.mk (ByteArray.mk (Array.mk [])) (0 : Int) false (0 : Int) (ByteArray.mk
  (Array.mk [])) false [])).brk), (vI (List.getD z_1 z (Ent.mk (ByteArray.mk (Array.mk [])) (0 : Int) false (0 : Int) (ByteArray.mk (Array.mk [])) false [])).date), (vS
  (List.getD z_1 z (Ent.mk (ByteArray.mk (Array.mk [])) (0 : Int) false (0 : Int) (ByteArray.mk (Array.mk [])) false [])).key), (vB (List.getD z_1 z (Ent.mk (ByteArray.mk
  (Array.mk [])) (0 : Int) false (0 : Int) (ByteArray.mk (Array.mk [])) false [])).gap), AV.sl (List.map eStr (List.getD z_1 z (Ent.mk (ByteArray.mk (Array.mk [])) (0 : Int)
  false (0 : Int) (ByteArray.mk (Array.mk [])) false [])).extra)], AV.agg [(vS (List.getD z_3 z_2 (Ent.mk (ByteArray.mk (Array.mk [])) (0 : Int) false (0 : Int)
  (ByteArray.mk (Array.mk [])) false [])).uri), (vI (List.getD z_3 z_2 (Ent.mk (ByteArray.mk (Array.mk [])) (0 : Int) false (0 : Int) (ByteArray.mk (Array.mk [])) false
  [])).milli), (vB (List.getD z_3 z_2 (Ent.mk (ByteArray.mk (Array.mk [])) (0 : Int) false (0 : Int) (ByteArray.mk (Array.mk [])) false [])).brk), (vI (List.getD z_3 z_2
  (Ent.mk (ByteArray.mk (Array.mk [])) (0 : Int) false (0 : Int) (ByteArray.mk (Array.mk [])) false [])).date), (vS (List.getD z_3 z_2 (Ent.mk (ByteArray.mk (Array.mk []))
  (0 : Int) false (0 : Int) (ByteArray.mk (Array.mk [])) false [])).key), (vB (List.getD z_3 z_2 (Ent.mk (ByteArray.mk (Array.mk [])) (0 : Int) false (0 : Int) (ByteArray.mk
  (Array.mk [])) false [])).gap), AV.sl (List.map eStr (List.getD z_3 z_2 (Ent.mk (ByteArray.mk (Array.mk [])) (0 : Int) false (0 : Int) (ByteArray.mk (Array.mk [])) false
  [])).extra)]]) fun (z : Ent × Ent) => bif !F.sameE z.fst z.snd then some (Ex.ret, St.mk [(4, (vI (12 : Int)))] []) else Option.bind (idx (IntKind.wrap IntKind.i64 (n -
  old.first))) fun (z : Nat) => Option.bind (unenc (List.map eI) (List.map eI (F.bn old))) fun (z_4 : List Int) => bif decide (z < List.length z_4) then Option.bind (idx
  (IntKind.wrap IntKind.i64 (n - now.first))) fun (z_5 : Nat) => Option.bind (unenc (List.map eI) (List.map eI (F.bn now))) fun (z_6 : List Int) => bif decide (z_5 <
  List.length z_6) then bif List.getD z_4 z (0 : Int) != List.getD z_6 z_5 (0 : Int) then some (Ex.ret, St.mk [(4, (vI (3 : Int)))] []) else some (Ex.normal, St.mk [(9, (vI
  (IntKind.wrap IntKind.i64 (n + (1 : Int))))), (8, AV.sl (List.map eI (F.bn now))), (7, AV.sl (List.map eI (F.bn old))), (5, (vI (F.endN old))), (3, .ptr 3 0 0), (2, .ptr 2
  0 0)] [(3, Blk.mk true 0 0 [[(vI now.target), (vI now.first), (vI now.breaks), AV.sl (List.map eEnt now.entries), (vB now.ended)]]), (2, Blk.mk true 0 0 [[(vI old.target),
  (vI old.first), (vI old.breaks), AV.sl (List.map eEnt old.entries), (vB old.ended)]])]) else none else none else none else none else some (Ex.exit (1 : Nat), St.mk [(7,
  AV.sl (List.map eI (F.bn old))), (5, (vI (F.endN old))), (3, .ptr 3 0 0), (2, .ptr 2 0 0)] [(3, Blk.mk true 0 0 [[(vI now.target), (vI now.first), (vI now.breaks), AV.sl
  (List.map eEnt now.entries), (vB now.ended)]]), (2, Blk.mk true 0 0 [[(vI old.target), (vI old.first), (vI old.breaks), AV.sl (List.map eEnt old.entries), (vB
  old.ended)]])]) := by kernel_rfl

theorem lpFol_ok (old : Lst) (now : Lst) (n : Int) (hp : prlFol old now n = true) : ∀ ex s', (outFol old now n).val = some (ex, s') → LoopOK enFol (loopN Try.f50 0) (stFol old now n) ex s' := by
  simp only [prlFol, Bool.and_eq_true, decide_eq_true_eq] at hp
  obtain ⟨⟨h1, h2⟩, h3⟩ := hp
  obtain ⟨c1, c2, c3, c4⟩ := F.folOK_ok h1
  simp only [F.le, decide_eq_true_eq] at h2 h3
  obtain ⟨o1, _, _, o2, o3⟩ := F.check_ok c1
  obtain ⟨n1, _, _, n2, n3⟩ := F.check_ok c2
  have eo := F.endN_eq c1
  have en := F.endN_eq c2
  rw [eo] at h3 c4
  rw [en] at c4
  have hX := F.folX_len old now
  have key : ∀ k, k ≤ (F.folX old now).length → ∀ ex s', (outFol old now (now.first + k)).val = some (ex, s') → LoopOK enFol (loopN Try.f50 0) (stFol old now (now.first + k)) ex s' := by
    have hdr : ∀ k : Nat, outFol old now (now.first + k) = .ifB (decide (M.ffI F.folG ((F.folX old now).drop k) = 0)) (.ret (.exit 1, ⟨[(7, .sl ((F.bn old).map eI)), (5, vI (F.endN old)), (3, .ptr 3 0 0), (2, .ptr 2 0 0)], [(3, ⟨true, 0, 0, [eLst now]⟩), (2, ⟨true, 0, 0, [eLst old]⟩)]⟩)) (.ret (.ret, ⟨[(4, vI (M.ffI F.folG ((F.folX old now).drop k)))], []⟩)) := by
      intro k
      have e : (now.first + (k : Int) - now.first).toNat = k := by omega
      simp only [outFol, F.folL, e]
    intro k hk
    rw [hdr]
    refine loop_code (xs := F.folX old now) (st := fun k => stFol old now (now.first + k)) (g := F.folG) (o := fun c => (.ret, ⟨[(4, vI c)], []⟩)) (n := ([9, 8, 7, 5, 3, 2], [3, 2])) (e := ([7, 5, 3, 2], [3, 2])) (r := ([4], [])) ?_ ⟨by simp, rfl⟩ (fun _ => ⟨by simp, rfl⟩) (fun _ => rfl) ?_ k hk
    · have hno : decide (now.first + ((F.folX old now).length : Int) < F.endN old) = false := decide_eq_false (by rw [eo, hX]; omega)
      rw [evFolL]
      simp only [unLsL, unBns, unLsE, unLsLw, unBnsw, unLsEw, preLsL1, preBns1, preLsE1, unstFol, prlFol, outFol, etaEnt, etaLst, Option.bind_some, List.length_map, unStrs, unInts, unBools, unEnts, unItms, unTrns, cond_true, cond_false, Bool.and_true, Bool.true_and, hno]
      rfl
    · intro k y hy
      obtain ⟨a1, a2, a3, a4⟩ := F.folX_at hy
      have hlt := lt_at hy
      rw [hX] at hlt
      have hyes : decide (now.first + (k : Int) < F.endN old) = true := decide_eq_true (by rw [eo]; omega)
      have i1 : idx (IntKind.i64.wrap (now.first + (k : Int) - old.first)) = some ((now.first - old.first).toNat + k) := by
        rw [wrap_id (by omega) (by omega), show now.first + (k : Int) - old.first = (((now.first - old.first).toNat + k : Nat) : Int) by omega]; rfl
      have i2 : idx (IntKind.i64.wrap (now.first + (k : Int) - now.first)) = some k := by
        rw [wrap_id (by omega) (by omega), show now.first + (k : Int) - now.first = ((k : Nat) : Int) by omega]; rfl
      have w1 : IntKind.i64.wrap (now.first + (k : Int) + 1) = now.first + ((k + 1 : Nat) : Int) := by rw [wrap_id (by omega) (by omega)]; omega
      rw [evFolL]
      simp only [unLsL, unBns, unLsE, unLsLw, unBnsw, unLsEw, preLsL1, preBns1, preLsE1, unstFol, prlFol, outFol, etaEnt, etaLst, Option.bind_some, List.length_map, unStrs, unInts, unBools, unEnts, unItms, unTrns, cond_true, cond_false, Bool.and_true, Bool.true_and, hyes, i1, i2, w1, decide_eq_true (lt_at a1), decide_eq_true (lt_at a2), decide_eq_true (lt_at a3), decide_eq_true (lt_at a4), getD_at a1, getD_at a2, getD_at a3, getD_at a4, stFol]
      rcases Bool.eq_false_or_eq_true (F.sameE y.1.1 y.1.2) with hs | hs
      · by_cases hab : y.2.1 = y.2.2
        · have hg : F.folG y = 0 := by simp [F.folG, hs, hab]
          simp only [hg, hs, hab, bne_self_eq_false, Bool.not_true, cond_false, if_true]
          rfl
        · have hb : (y.2.1 != y.2.2) = true := by simp [hab]
          have hg : F.folG y = 3 := by simp [F.folG, hs, hab]
          simp only [hg, hs, hb, Bool.not_true, cond_false, cond_true]
          rfl
      · have hg : F.folG y = 12 := by simp [F.folG, hs]
        simp only [hg, hs, Bool.not_false, cond_true]
        rfl
  have e : n = now.first + ((n - now.first).toNat : Int) := by omega
  rw [e]
  exact key _ (by rw [hX]; omega)

theorem evFol (old : Lst) (now : Lst) : (runF enFol false Try.f50 [.agg (eLst old), .agg (eLst now)]).val =
  bif old.target != now.target then some ((vI (6 : Int)), []) else bif old.ended then Option.bind (unenc encLsL [AV.agg [(vI old.target), (vI old.first), (vI old.breaks),
  AV.sl (List.map eEnt old.entries), (vB old.ended)], AV.agg [(vI now.target), (vI now.first), (vI now.breaks), AV.sl (List.map eEnt now.entries), (vB now.ended)]]) fun (z :
  Lst × Lst) => bif bif old.ended then !F.sameL z.fst z.snd else false then some ((vI (11 : Int)), []) else bif bif decide (now.first < old.first) then true else decide
  (IntKind.wrap IntKind.i64 (now.first + (↑(List.length (List.map eEnt now.entries)) : Int)) < IntKind.wrap IntKind.i64 (old.first + (↑(List.length (List.map eEnt
  old.entries)) : Int))) then some ((vI (8 : Int)), []) else Option.bind (unenc encBns [AV.agg [(vI old.target), (vI old.first), (vI old.breaks), AV.sl (List.map eEnt
  old.entries), (vB old.ended)]]) fun (z : Lst) => bif decide (List.length z.entries ≤ (100000 : Nat)) then Option.bind (unenc encBns [AV.agg [(vI now.target), (vI
  now.first), (vI now.breaks), AV.sl (List.map eEnt now.entries), (vB now.ended)]]) fun (z_1 : Lst) => bif decide (List.length z_1.entries ≤ (100000 : Nat)) then Option.bind
  (unenc stFol1 (St.mk [(9, (vI now.first)), (8, AV.sl (List.map eI (F.bn z_1))), (7, AV.sl (List.map eI (F.bn z))), (5, (vI (IntKind.wrap IntKind.i64 (old.first +
  (↑(List.length (List.map eEnt old.entries)) : Int))))), (3, .ptr 3 0 0), (2, .ptr 2 0 0)] [(3, Blk.mk true 0 0 [[(vI now.target), (vI now.first), (vI now.breaks), AV.sl
  (List.map eEnt now.entries), (vB now.ended)]]), (2, Blk.mk true 0 0 [[(vI old.target), (vI old.first), (vI old.breaks), AV.sl (List.map eEnt old.entries), (vB
  old.ended)]])])) fun (z : Lst × Lst × Int) => bif F.folOK z.fst z.snd.fst && F.le z.snd.fst.first z.snd.snd && F.le z.snd.snd (max z.snd.fst.first (F.endN z.fst)) && true
  then bif decide (F.folL z.fst z.snd.fst z.snd.snd = (0 : Int)) then bif decide ((0 : Int) < (↑(List.length (List.map eI (F.bn z.fst))) : Int)) then Option.bind (idx
  (IntKind.wrap IntKind.i64 ((↑(List.length (List.map eI (F.bn z.fst))) : Int) - (1 : Int)))) fun (z_2 : Nat) => Option.bind (unenc (List.map eI) (List.map eI (F.bn z.fst)))
  fun (z_3 : List Int) => bif decide (z_2 < List.length z_3) then bif bif decide (F.endN z.fst ≤ z.snd.fst.first) then decide (z.snd.fst.breaks < List.getD z_3 z_2 (0 :
  Int)) else false then some ((vI (8 : Int)), []) else some ((vI (0 : Int)), []) else none else bif bif decide (F.endN z.fst ≤ z.snd.fst.first) then decide (z.snd.fst.breaks
  < z.fst.breaks) else false then some ((vI (8 : Int)), []) else some ((vI (0 : Int)), []) else some ((vI (F.folL z.fst z.snd.fst z.snd.snd)), []) else none else none else
  none else bif old.ended then none else bif bif decide (now.first < old.first) then true else decide (IntKind.wrap IntKind.i64 (now.first + (↑(List.length (List.map eEnt
  now.entries)) : Int)) < IntKind.wrap IntKind.i64 (old.first + (↑(List.length (List.map eEnt old.entries)) : Int))) then some ((vI (8 : Int)), []) else Option.bind (unenc
  encBns [AV.agg [(vI old.target), (vI old.first), (vI old.breaks), AV.sl (List.map eEnt old.entries), (vB old.ended)]]) fun (z : Lst) => bif decide (List.length z.entries ≤
  (100000 : Nat)) then Option.bind (unenc encBns [AV.agg [(vI now.target), (vI now.first), (vI now.breaks), AV.sl (List.map eEnt now.entries), (vB now.ended)]]) fun (z_1 :
  Lst) => bif decide (List.length z_1.entries ≤ (100000 : Nat)) then Option.bind (unenc stFol1 (St.mk [(9, (vI now.first)), (8, AV.sl (List.map eI (F.bn z_1))), (7, AV.sl
  (List.map eI (F.bn z))), (5, (vI (IntKind.wrap IntKind.i64 (old.first + (↑(List.length (List.map eEnt old.entries)) : Int))))), (3, .ptr 3 0 0), (2, .ptr 2 0 0)] [(3,
  Blk.mk true 0 0 [[(vI now.target), (vI now.first), (vI now.breaks), AV.sl (List.map eEnt now.entries), (vB now.ended)]]), (2, Blk.mk true 0 0 [[(vI old.target), (vI
  old.first), (vI old.breaks), AV.sl (List.map eEnt old.entries), (vB old.ended)]])])) fun (z : Lst × Lst × Int) => bif F.folOK z.fst z.snd.fst && F.le z.snd.fst.first
  z.snd.snd && F.le z.snd.snd (max z.snd.fst.first (F.endN z.fst)) && true then bif decide (F.folL z.fst z.snd.fst z.snd.snd = (0 : Int)) then bif decide ((0 : Int) <
  (↑(List.length (List.map eI (F.bn z.fst))) : Int)) then Option.bind (idx (IntKind.wrap IntKind.i64 ((↑(List.length (List.map eI (F.bn z.fst))) : Int) - (1 : Int)))) fun
  (z_2 : Nat) => Option.bind (unenc (List.map eI) (List.map eI (F.bn z.fst))) fun (z_3 : List Int) => bif decide (z_2 < List.length z_3) then bif bif decide (F.endN z.fst ≤
  z.snd.fst.first) then decide (z.snd.fst.breaks < List.getD z_3 z_2 (0 : Int)) else false then some ((vI (8 : Int)), []) else some ((vI (0 : Int)), []) else none else bif
  bif decide (F.endN z.fst ≤ z.snd.fst.first) then decide (z.snd.fst.breaks < z.fst.breaks) else false then some ((vI (8 : Int)), []) else some ((vI (0 : Int)), []) else
  some ((vI (F.folL z.fst z.snd.fst z.snd.snd)), []) else none else none else none := by kernel_rfl

def encFol1 (old : Lst) (now : Lst) : List AV := [.agg (eLst old), .agg (eLst now)]

def encFol (a : Lst × Lst) : List AV := encFol1 a.1 a.2

theorem encFol_inj (a a' : Lst × Lst) (h : encFol a = encFol a') : a = a' := by
  simp only [encFol, encFol1] at h
  try simp [strs_inj, ents_inj, eEnt_iff, eLst_iff, ints_inj, eTrn_iff] at h
  grind

theorem unFol (old : Lst) (now : Lst) : unenc encFol ([AV.agg [(vI old.target), (vI old.first), (vI old.breaks), AV.sl (List.map eEnt old.entries), (vB old.ended)], AV.agg [(vI now.target), (vI now.first), (vI now.breaks),
  AV.sl (List.map eEnt now.entries), (vB now.ended)]]) = some (old, now) := unenc_of encFol_inj (old, now) rfl

theorem unFolw (old_target : Int) (old_first : Int) (old_breaks : Int) (old_entries : List Ent) (old_ended : Bool) (now_target : Int) (now_first : Int) (now_breaks : Int) (now_entries : List Ent) (now_ended : Bool) : unenc encFol ([AV.agg [(vI old_target), (vI old_first), (vI old_breaks), AV.sl (List.map eEnt old_entries), (vB old_ended)], AV.agg [(vI now_target), (vI now_first), (vI now_breaks),
  AV.sl (List.map eEnt now_entries), (vB now_ended)]]) = some ((Lst.mk old_target old_first old_breaks old_entries old_ended), (Lst.mk now_target now_first now_breaks now_entries now_ended)) := unenc_of encFol_inj ((Lst.mk old_target old_first old_breaks old_entries old_ended), (Lst.mk now_target now_first now_breaks now_entries now_ended)) rfl

def resFol1 (old : Lst) (now : Lst) : AV × Heap := (vI (F.fol old now), [])

def preFol1 (old : Lst) (now : Lst) : Bool := decide (F.check old = 0) && decide (F.check now = 0)

noncomputable def oFol : Orc := orc 50 false encFol (fun a => preFol1 a.1 a.2) fun a => resFol1 a.1 a.2

theorem okFol : OrcOK Try.prog noG oFol := by
  refine mk_ok Try.f50 (keep := false) (by kernel_rfl) (by kernel_rfl) enFol_ok mixed (one_loop (x0 := loopN Try.f50 0) (by kernel_rfl) (lpo_ok ?_)) (by first | exact fun _ _ => ⟨rfl, rfl⟩ | (intro h; cases h)) ?_
  · rintro ⟨old, now, n⟩ hp
    exact lpFol_ok old now n hp
  rintro ⟨old, now⟩ hpre hok
  show (runF enFol false _ (encFol1 _ _)).val = some (resFol1 _ _)
  unfold encFol1 resFol1
  rw [evFol]
  simp only [preFol1, Bool.and_eq_true, decide_eq_true_eq] at hpre
  obtain ⟨c1, c2⟩ := hpre
  obtain ⟨o1, _, _, o2, o3⟩ := F.check_ok c1
  obtain ⟨n1, _, _, n2, n3⟩ := F.check_ok c2
  have l1 : decide (old.entries.length ≤ 100000) = true := decide_eq_true (by omega)
  have l2 : decide (now.entries.length ≤ 100000) = true := decide_eq_true (by omega)
  simp only [unLsL, unBns, unLsE, unLsLw, unBnsw, unLsEw, preLsL1, preBns1, preLsE1, unstFol, prlFol, outFol, etaEnt, etaLst, Option.bind_some, List.length_map, unStrs, unInts, unBools, unEnts, unItms, unTrns, cond_true, cond_false, Bool.and_true, Bool.true_and, l1, l2, F.fol, F.endN_def]
  have hle : F.le now.first now.first = true := decide_eq_true (Int.le_refl _)
  have hmx : F.le now.first (max now.first (F.endN old)) = true := decide_eq_true (by omega)
  have hend : (bif decide (F.folL old now now.first = 0) then
      bif decide (0 < ((F.bn old).length : Int)) then
        (idx (IntKind.i64.wrap (((F.bn old).length : Int) - 1))).bind fun z_2 =>
          bif decide (z_2 < (F.bn old).length) then
            bif bif decide (F.endN old ≤ now.first) then decide (now.breaks < (F.bn old).getD z_2 0) else false then some (vI 8, []) else some (vI 0, [])
          else none
      else bif bif decide (F.endN old ≤ now.first) then decide (now.breaks < old.breaks) else false then some (vI 8, []) else some (vI 0, [])
    else some (vI (F.folL old now now.first), [])) =
    (some (vI (bif F.folL old now now.first != 0 then F.folL old now now.first else bif F.le (F.endN old) now.first && F.lt now.breaks (F.last old) then 8 else 0), []) : Option (AV × Heap)) := by
    by_cases hz : F.folL old now now.first = 0
    · simp only [hz, decide_true, cond_true, bne_self_eq_false, cond_false]
      by_cases h0 : 0 < (F.bn old).length
      · have d0 : decide (0 < ((F.bn old).length : Int)) = true := decide_eq_true (by omega)
        have hb := F.bn_len old
        have hj : idx (IntKind.i64.wrap (((F.bn old).length : Int) - 1)) = some ((F.bn old).length - 1) := by
          rw [wrap_id (by omega) (by omega), show ((F.bn old).length : Int) - 1 = (((F.bn old).length - 1 : Nat) : Int) by omega]; rfl
        have d1 : decide ((F.bn old).length - 1 < (F.bn old).length) = true := decide_eq_true (by omega)
        have hl : F.last old = (F.bn old).getD ((F.bn old).length - 1) 0 := by simp only [F.last, F.lt, d0, cond_true]
        simp only [d0, hj, d1, hl, cond_true, Option.bind_some, F.le, F.lt]
        cases decide (F.endN old ≤ now.first)
        · rfl
        · cases decide (now.breaks < (F.bn old).getD ((F.bn old).length - 1) 0) <;> rfl
      · have d0 : decide (0 < ((F.bn old).length : Int)) = false := decide_eq_false (by omega)
        have hl : F.last old = old.breaks := by simp only [F.last, F.lt, d0, cond_false]
        simp only [d0, hl, cond_false, F.le, F.lt]
        cases decide (F.endN old ≤ now.first)
        · rfl
        · cases decide (now.breaks < old.breaks) <;> rfl
    · have hb : (F.folL old now now.first != 0) = true := by simp [hz]
      simp only [hz, hb, decide_false, cond_false, cond_true]
  cases (old.target != now.target)
  · have hfo : ¬ now.first < old.first → ¬ F.endN now < F.endN old → F.folOK old now = true := by
      intro a b
      simp only [F.folOK, c1, c2, F.le, decide_true, Bool.true_and, Bool.and_eq_true, decide_eq_true_eq]
      omega
    have tail : (bif bif decide (now.first < old.first) then true else decide (F.endN now < F.endN old) then some (vI 8, []) else
        bif F.folOK old now && F.le now.first now.first && F.le now.first (max now.first (F.endN old)) then
          (some (vI (bif F.folL old now now.first != 0 then F.folL old now now.first else bif F.le (F.endN old) now.first && F.lt now.breaks (F.last old) then 8 else 0), []) : Option (AV × Heap)) else none) =
        some (vI (bif F.lt now.first old.first || F.lt (F.endN now) (F.endN old) then 8 else bif F.folL old now now.first != 0 then F.folL old now now.first else bif F.le (F.endN old) now.first && F.lt now.breaks (F.last old) then 8 else 0), []) := by
      by_cases a : now.first < old.first
      · simp only [F.lt, a, decide_true, cond_true, Bool.true_or]
      · by_cases b : F.endN now < F.endN old
        · simp only [F.lt, a, b, decide_true, decide_false, cond_true, cond_false, Bool.or_true]
        · simp only [F.lt, a, b, decide_false, cond_false, Bool.or_false, hfo a b, hle, hmx, Bool.and_self, cond_true]
    rw [hend, tail]
    simp only [cond_false]
    cases old.ended
    · simp only [cond_false, Bool.false_and]
    · cases F.sameL old now <;> simp only [cond_false, cond_true, Bool.true_and, Bool.not_true, Bool.not_false]
  · rfl

noncomputable def enFws : Env := envH ty noG lks [oChk, oFst, oFol] [] [] []

theorem enFws_ok : EnvOK Try.prog enFws := by
  refine envH_ok lks_ok ty_ok ?_ ?_
  · simp only [List.forall_mem_cons]
    exact ⟨okChk, okFst, okFol, by simp⟩
  · simp

theorem evFws (old : Lst) (now : Lst) : (runF enFws false Try.f23 [.agg (eLst old), .agg (eLst now)]).val =
  Option.bind (unenc encChk [AV.agg [(vI old.target), (vI old.first), (vI old.breaks), AV.sl (List.map eEnt old.entries), (vB old.ended)]]) fun (z : Lst) => Option.bind
  (unenc encChk [AV.agg [(vI now.target), (vI now.first), (vI now.breaks), AV.sl (List.map eEnt now.entries), (vB now.ended)]]) fun (z_1 : Lst) => Option.bind (unenc encFst
  [AV.sl [[(vI (F.check z))], [(vI (F.check z_1))]]]) fun (z : List Int) => bif ffI id z != (0 : Int) then some ((vI (ffI id z)), []) else Option.bind (unenc encFol [AV.agg
  [(vI old.target), (vI old.first), (vI old.breaks), AV.sl (List.map eEnt old.entries), (vB old.ended)], AV.agg [(vI now.target), (vI now.first), (vI now.breaks), AV.sl
  (List.map eEnt now.entries), (vB now.ended)]]) fun (z : Lst × Lst) => bif decide (F.check z.fst = (0 : Int)) && decide (F.check z.snd = (0 : Int)) then some ((vI (F.fol
  z.fst z.snd)), []) else none := by kernel_rfl

def encFws1 (old : Lst) (now : Lst) : List AV := [.agg (eLst old), .agg (eLst now)]

def encFws (a : Lst × Lst) : List AV := encFws1 a.1 a.2

theorem encFws_inj (a a' : Lst × Lst) (h : encFws a = encFws a') : a = a' := by
  simp only [encFws, encFws1] at h
  try simp [strs_inj, ents_inj, eEnt_iff, eLst_iff, ints_inj, eTrn_iff] at h
  grind

theorem unFws (old : Lst) (now : Lst) : unenc encFws ([AV.agg [(vI old.target), (vI old.first), (vI old.breaks), AV.sl (List.map eEnt old.entries), (vB old.ended)], AV.agg [(vI now.target), (vI now.first), (vI now.breaks),
  AV.sl (List.map eEnt now.entries), (vB now.ended)]]) = some (old, now) := unenc_of encFws_inj (old, now) rfl

theorem unFwsw (old_target : Int) (old_first : Int) (old_breaks : Int) (old_entries : List Ent) (old_ended : Bool) (now_target : Int) (now_first : Int) (now_breaks : Int) (now_entries : List Ent) (now_ended : Bool) : unenc encFws ([AV.agg [(vI old_target), (vI old_first), (vI old_breaks), AV.sl (List.map eEnt old_entries), (vB old_ended)], AV.agg [(vI now_target), (vI now_first), (vI now_breaks),
  AV.sl (List.map eEnt now_entries), (vB now_ended)]]) = some ((Lst.mk old_target old_first old_breaks old_entries old_ended), (Lst.mk now_target now_first now_breaks now_entries now_ended)) := unenc_of encFws_inj ((Lst.mk old_target old_first old_breaks old_entries old_ended), (Lst.mk now_target now_first now_breaks now_entries now_ended)) rfl

def resFws1 (old : Lst) (now : Lst) : AV × Heap := (vI (F.follows old now), [])

def preFws1 (old : Lst) (now : Lst) : Bool := true

noncomputable def oFws : Orc := orc 23 false encFws (fun a => preFws1 a.1 a.2) fun a => resFws1 a.1 a.2

theorem okFws : OrcOK Try.prog noG oFws := by
  refine mk_ok Try.f23 (keep := false) (by kernel_rfl) (by kernel_rfl) enFws_ok mixed (no_loops (by kernel_rfl)) (by first | exact fun _ _ => ⟨rfl, rfl⟩ | (intro h; cases h)) ?_
  rintro ⟨old, now⟩ hpre hok
  show (runF enFws false _ (encFws1 _ _)).val = some (resFws1 _ _)
  unfold encFws1 resFws1
  rw [evFws]
  simp only [unChk, unFst, unFol, unChkw, unFolw, preChk1, preFst1, preFol1, etaEnt, etaLst, Option.bind_some, List.length_map, unStrs, unInts, unBools, unEnts, unItms, unTrns, cond_true, cond_false, Bool.and_true, Bool.true_and, F.follows]
  have hu : unenc encFst [.sl [[.v (.int .i64 (F.check old))], [.v (.int .i64 (F.check now))]]] = some [F.check old, F.check now] := unenc_of encFst_inj [F.check old, F.check now] rfl
  rw [hu]
  simp only [Option.bind_some]
  by_cases h1 : F.check old = 0
  · by_cases h2 : F.check now = 0
    · have e : M.ffI id [F.check old, F.check now] = 0 := by simp [M.ffI, h1, h2]
      rw [e]
      simp only [h1, h2, bne_self_eq_false, cond_false, decide_true, Bool.and_self, cond_true]
    · have e : M.ffI id [F.check old, F.check now] = F.check now := by simp [M.ffI, h1, h2]
      have hb : (F.check now != 0) = true := by simp [h2]
      rw [e, hb]
      simp only [h1, bne_self_eq_false, cond_false, cond_true]
  · have e : M.ffI id [F.check old, F.check now] = F.check old := by simp [M.ffI, h1]
    have hb : (F.check old != 0) = true := by simp [h1]
    rw [e, hb]
    simp only [cond_true]

end M
end Go.Proofs.Ytkfhfjcgegimbaa
