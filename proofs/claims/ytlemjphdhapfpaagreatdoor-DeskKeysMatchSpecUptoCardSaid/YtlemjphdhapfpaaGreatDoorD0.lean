/- What is proved here: the data of this part, and how they lie on plain data (no statement of the seat). -/
import Derived.Test.YtlemjphdhapfpaaGreatDoorTys
import Derived.Lib.ItoaNum
namespace Go.Proofs.YtlemjphdhapfpaaGreatDoor
open Go Go.RowKit
set_option linter.unusedVariables false
set_option linter.unusedSimpArgs false

structure Ent where
  uri : ByteArray
  milli : Int
  brk : Bool
  date : Int
  key : ByteArray
  gap : Bool
  extra : List ByteArray

instance : Inhabited Ent := ⟨⟨⟨#[]⟩, 0, false, 0, ⟨#[]⟩, false, []⟩⟩

structure Lst where
  target : Int
  first : Int
  breaks : Int
  entries : List Ent
  ended : Bool

instance : Inhabited Lst := ⟨⟨0, 0, 0, [], false⟩⟩

structure Seg where
  number : Int
  fr : Int
  to : Int
  begin : Int
  length : Int
  bytes : Int
  lead : Int

instance : Inhabited Seg := ⟨⟨0, 0, 0, 0, 0, 0, 0⟩⟩

structure Rot where
  begin : Int
  every : Int
  lead : Int
  seed : List Int

instance : Inhabited Rot := ⟨⟨0, 0, 0, []⟩⟩

structure Beat where
  session : ByteArray
  no : Int
  time : Int
  state : Int
  rate : Int

instance : Inhabited Beat := ⟨⟨⟨#[]⟩, 0, 0, 0, 0⟩⟩

structure Span where
  fr : Int
  to : Int

instance : Inhabited Span := ⟨⟨0, 0⟩⟩

structure Hole where
  session : ByteArray
  fr : Int
  to : Int

instance : Inhabited Hole := ⟨⟨⟨#[]⟩, 0, 0⟩⟩

namespace M



abbrev vI (n : Int) : AV := .v (.int .i64 n)

abbrev vU (n : Int) : AV := .v (.int .u8 n)

abbrev vB (b : Bool) : AV := .v (.bool b)

abbrev vS (s : ByteArray) : AV := .v (.string s)

/-- The package-level variable that strconv.Itoa reads. -/
noncomputable def noG : Nat → Option GR := fun g => match Nat.beq g 2 with
  | true => some ⟨[], fun cs => cs = (Lib.pow10Tab.map fun z => Value.int .u64 z).toArray⟩
  | false => none


theorem wrap_id {n : Int} (h1 : -9223372036854775808 ≤ n) (h2 : n ≤ 9223372036854775807) : IntKind.i64.wrap n = n := by
  simp only [IntKind.wrap, IntKind.signed, IntKind.bits]
  simp
  omega

theorem ble_t {a b : Nat} (h : a ≤ b) : Nat.ble a b = true := by rw [Nat.ble_eq]; exact h

theorem mixed : Tryz.prog.follows .mixedOrders = true := by kernel_rfl

theorem getD_at {α : Type} {xs : List α} {k : Nat} {y d : α} (h : xs[k]? = some y) : xs.getD k d = y := by simp [List.getD, h]

theorem lt_at {α : Type} {xs : List α} {k : Nat} {y : α} (h : xs[k]? = some y) : k < xs.length := (List.getElem?_eq_some_iff.1 h).1

theorem next_at {k n : Nat} (h : k < n) (hn : n ≤ 9223372036854775807) : IntKind.i64.wrap ((k : Int) + 1) = ((k + 1 : Nat) : Int) := by
  rw [wrap_id (by omega) (by omega)]; rfl

theorem tdiv_nn {a b : Int} (h : 0 ≤ a) : a.tdiv b = a / b := Int.tdiv_eq_ediv_of_nonneg h

theorem cast_lt {k n : Nat} (h : k < n) : decide ((k : Int) < (n : Int)) = true := decide_eq_true (by omega)

theorem cast_ge {n : Nat} : decide ((n : Int) < (n : Int)) = false := decide_eq_false (by omega)

theorem bne0 {x : Int} (h : x = 0) : (x != 0) = false := by simp [h]

theorem bne1 {x : Int} (h : ¬ x = 0) : (x != 0) = true := by simp [h]

def eStr (s : ByteArray) : Row := [vS s]

def eI (n : Int) : Row := [vI n]

def eB (b : Bool) : Row := [vB b]

theorem eStr_inj (a b : ByteArray) (h : eStr a = eStr b) : a = b := by
  simp only [eStr] at h
  grind

theorem eI_inj (a b : Int) (h : eI a = eI b) : a = b := by
  simp only [eI] at h
  grind

theorem eB_inj (a b : Bool) (h : eB a = eB b) : a = b := by
  simp only [eB] at h
  grind

theorem strs_inj {a b : List ByteArray} : a.map eStr = b.map eStr ↔ a = b := List.map_inj_right eStr_inj

theorem ints_inj {a b : List Int} : a.map eI = b.map eI ↔ a = b := List.map_inj_right eI_inj

theorem bools_inj {a b : List Bool} : a.map eB = b.map eB ↔ a = b := List.map_inj_right eB_inj

theorem unStrs (xs : List ByteArray) : unenc (List.map eStr) (xs.map eStr) = some xs := unenc_of (fun a b h => strs_inj.1 h) xs rfl

theorem unInts (xs : List Int) : unenc (List.map eI) (xs.map eI) = some xs := unenc_of (fun a b h => ints_inj.1 h) xs rfl

theorem unBools (xs : List Bool) : unenc (List.map eB) (xs.map eB) = some xs := unenc_of (fun a b h => bools_inj.1 h) xs rfl

theorem appInts' (xs : List Int) (n : Int) : xs.map eI ++ [[vI n]] = (xs ++ [n]).map eI := by simp [eI]

theorem appStrs' (xs : List ByteArray) (s : ByteArray) : xs.map eStr ++ [[vS s]] = (xs ++ [s]).map eStr := by simp [eStr]

theorem all_ints (xs : List Int) : ((xs.map eI).all fun r => Nat.beq (List.length r) 1) = true := by simp [eI]

theorem all_strs (xs : List ByteArray) : ((xs.map eStr).all fun r => Nat.beq (List.length r) 1) = true := by simp [eStr]

def eU8 (n : Int) : Row := [vU n]

theorem eU8_inj (a b : Int) (h : eU8 a = eU8 b) : a = b := by
  simp only [eU8] at h
  grind

theorem u8s_inj {a b : List Int} : a.map eU8 = b.map eU8 ↔ a = b := List.map_inj_right eU8_inj

theorem unU8s (xs : List Int) : unenc (List.map eU8) (xs.map eU8) = some xs := unenc_of (fun a b h => u8s_inj.1 h) xs rfl

theorem all_u8s (xs : List Int) : ((xs.map eU8).all fun r => Nat.beq (List.length r) 1) = true := by simp [eU8]

def eEnt (x : Ent) : Row := [vS x.uri, vI x.milli, vB x.brk, vI x.date, vS x.key, vB x.gap, .sl (x.extra.map eStr)]

theorem eEnt_inj (a b : Ent) (h : eEnt a = eEnt b) : a = b := by
  obtain ⟨a0, a1, a2, a3, a4, a5, a6⟩ := a
  obtain ⟨b0, b1, b2, b3, b4, b5, b6⟩ := b
  simp only [eEnt] at h
  simp [strs_inj, ints_inj, bools_inj, u8s_inj] at h
  simp_all

theorem eEnts_inj {a b : List Ent} : a.map eEnt = b.map eEnt ↔ a = b := List.map_inj_right eEnt_inj

theorem eEnt_iff {a b : Ent} : eEnt a = eEnt b ↔ a = b := ⟨eEnt_inj a b, fun h => h ▸ rfl⟩

theorem unEnts (xs : List Ent) : unenc (List.map eEnt) (xs.map eEnt) = some xs := unenc_of (fun a b h => eEnts_inj.1 h) xs rfl

theorem etaEnt (x : Ent) : Ent.mk x.uri x.milli x.brk x.date x.key x.gap x.extra = x := rfl

theorem appEnts' (xs : List Ent) (x : Ent) : xs.map eEnt ++ [[vS x.uri, vI x.milli, vB x.brk, vI x.date, vS x.key, vB x.gap, .sl (x.extra.map eStr)]] = (xs ++ [x]).map eEnt := by simp [eEnt]

theorem all_Ents (xs : List Ent) : ((xs.map eEnt).all fun r => Nat.beq (List.length r) 7) = true := by simp [eEnt]

theorem appWEnts (xs : List Ent) (x_uri : ByteArray) (x_milli : Int) (x_brk : Bool) (x_date : Int) (x_key : ByteArray) (x_gap : Bool) (x_extra : List ByteArray) : xs.map eEnt ++ [[vS x_uri, vI x_milli, vB x_brk, vI x_date, vS x_key, vB x_gap, .sl (x_extra.map eStr)]] = (xs ++ [(Ent.mk x_uri x_milli x_brk x_date x_key x_gap x_extra)]).map eEnt := by simp [eEnt]

theorem setWEnts (xs : List Ent) (i : Nat) (x_uri : ByteArray) (x_milli : Int) (x_brk : Bool) (x_date : Int) (x_key : ByteArray) (x_gap : Bool) (x_extra : List ByteArray) : (xs.map eEnt).set i [vS x_uri, vI x_milli, vB x_brk, vI x_date, vS x_key, vB x_gap, .sl (x_extra.map eStr)] = (xs.set i (Ent.mk x_uri x_milli x_brk x_date x_key x_gap x_extra)).map eEnt := by simp [eEnt, List.map_set]

def eLst (x : Lst) : Row := [vI x.target, vI x.first, vI x.breaks, .sl (x.entries.map eEnt), vB x.ended]

theorem eLst_inj (a b : Lst) (h : eLst a = eLst b) : a = b := by
  obtain ⟨a0, a1, a2, a3, a4⟩ := a
  obtain ⟨b0, b1, b2, b3, b4⟩ := b
  simp only [eLst] at h
  simp [strs_inj, ints_inj, bools_inj, u8s_inj, eEnts_inj, eEnt_iff] at h
  simp_all

theorem eLsts_inj {a b : List Lst} : a.map eLst = b.map eLst ↔ a = b := List.map_inj_right eLst_inj

theorem eLst_iff {a b : Lst} : eLst a = eLst b ↔ a = b := ⟨eLst_inj a b, fun h => h ▸ rfl⟩

theorem unLsts (xs : List Lst) : unenc (List.map eLst) (xs.map eLst) = some xs := unenc_of (fun a b h => eLsts_inj.1 h) xs rfl

theorem etaLst (x : Lst) : Lst.mk x.target x.first x.breaks x.entries x.ended = x := rfl

theorem appLsts' (xs : List Lst) (x : Lst) : xs.map eLst ++ [[vI x.target, vI x.first, vI x.breaks, .sl (x.entries.map eEnt), vB x.ended]] = (xs ++ [x]).map eLst := by simp [eLst]

theorem all_Lsts (xs : List Lst) : ((xs.map eLst).all fun r => Nat.beq (List.length r) 5) = true := by simp [eLst]

theorem appWLsts (xs : List Lst) (x_target : Int) (x_first : Int) (x_breaks : Int) (x_entries : List Ent) (x_ended : Bool) : xs.map eLst ++ [[vI x_target, vI x_first, vI x_breaks, .sl (x_entries.map eEnt), vB x_ended]] = (xs ++ [(Lst.mk x_target x_first x_breaks x_entries x_ended)]).map eLst := by simp [eLst]

theorem setWLsts (xs : List Lst) (i : Nat) (x_target : Int) (x_first : Int) (x_breaks : Int) (x_entries : List Ent) (x_ended : Bool) : (xs.map eLst).set i [vI x_target, vI x_first, vI x_breaks, .sl (x_entries.map eEnt), vB x_ended] = (xs.set i (Lst.mk x_target x_first x_breaks x_entries x_ended)).map eLst := by simp [eLst, List.map_set]

def eSeg (x : Seg) : Row := [vI x.number, vI x.fr, vI x.to, vI x.begin, vI x.length, vI x.bytes, vI x.lead]

theorem eSeg_inj (a b : Seg) (h : eSeg a = eSeg b) : a = b := by
  obtain ⟨a0, a1, a2, a3, a4, a5, a6⟩ := a
  obtain ⟨b0, b1, b2, b3, b4, b5, b6⟩ := b
  simp only [eSeg] at h
  simp [strs_inj, ints_inj, bools_inj, u8s_inj, eEnts_inj, eEnt_iff, eLsts_inj, eLst_iff] at h
  simp_all

theorem eSegs_inj {a b : List Seg} : a.map eSeg = b.map eSeg ↔ a = b := List.map_inj_right eSeg_inj

theorem eSeg_iff {a b : Seg} : eSeg a = eSeg b ↔ a = b := ⟨eSeg_inj a b, fun h => h ▸ rfl⟩

theorem unSegs (xs : List Seg) : unenc (List.map eSeg) (xs.map eSeg) = some xs := unenc_of (fun a b h => eSegs_inj.1 h) xs rfl

theorem etaSeg (x : Seg) : Seg.mk x.number x.fr x.to x.begin x.length x.bytes x.lead = x := rfl

theorem appSegs' (xs : List Seg) (x : Seg) : xs.map eSeg ++ [[vI x.number, vI x.fr, vI x.to, vI x.begin, vI x.length, vI x.bytes, vI x.lead]] = (xs ++ [x]).map eSeg := by simp [eSeg]

theorem all_Segs (xs : List Seg) : ((xs.map eSeg).all fun r => Nat.beq (List.length r) 7) = true := by simp [eSeg]

theorem appWSegs (xs : List Seg) (x_number : Int) (x_fr : Int) (x_to : Int) (x_begin : Int) (x_length : Int) (x_bytes : Int) (x_lead : Int) : xs.map eSeg ++ [[vI x_number, vI x_fr, vI x_to, vI x_begin, vI x_length, vI x_bytes, vI x_lead]] = (xs ++ [(Seg.mk x_number x_fr x_to x_begin x_length x_bytes x_lead)]).map eSeg := by simp [eSeg]

theorem setWSegs (xs : List Seg) (i : Nat) (x_number : Int) (x_fr : Int) (x_to : Int) (x_begin : Int) (x_length : Int) (x_bytes : Int) (x_lead : Int) : (xs.map eSeg).set i [vI x_number, vI x_fr, vI x_to, vI x_begin, vI x_length, vI x_bytes, vI x_lead] = (xs.set i (Seg.mk x_number x_fr x_to x_begin x_length x_bytes x_lead)).map eSeg := by simp [eSeg, List.map_set]

def eqSeg (a b : Seg) : Bool := ((a.number == b.number) && ((a.fr == b.fr) && ((a.to == b.to) && ((a.begin == b.begin) && ((a.length == b.length) && ((a.bytes == b.bytes) && ((a.lead == b.lead) && true)))))))

theorem eqSeg_refl (a : Seg) : eqSeg a a = true := by simp [eqSeg]

def eRot (x : Rot) : Row := [vI x.begin, vI x.every, vI x.lead, .sl (x.seed.map eU8)]

theorem eRot_inj (a b : Rot) (h : eRot a = eRot b) : a = b := by
  obtain ⟨a0, a1, a2, a3⟩ := a
  obtain ⟨b0, b1, b2, b3⟩ := b
  simp only [eRot] at h
  simp [strs_inj, ints_inj, bools_inj, u8s_inj, eEnts_inj, eEnt_iff, eLsts_inj, eLst_iff, eSegs_inj, eSeg_iff] at h
  simp_all

theorem eRots_inj {a b : List Rot} : a.map eRot = b.map eRot ↔ a = b := List.map_inj_right eRot_inj

theorem eRot_iff {a b : Rot} : eRot a = eRot b ↔ a = b := ⟨eRot_inj a b, fun h => h ▸ rfl⟩

theorem unRots (xs : List Rot) : unenc (List.map eRot) (xs.map eRot) = some xs := unenc_of (fun a b h => eRots_inj.1 h) xs rfl

theorem etaRot (x : Rot) : Rot.mk x.begin x.every x.lead x.seed = x := rfl

theorem appRots' (xs : List Rot) (x : Rot) : xs.map eRot ++ [[vI x.begin, vI x.every, vI x.lead, .sl (x.seed.map eU8)]] = (xs ++ [x]).map eRot := by simp [eRot]

theorem all_Rots (xs : List Rot) : ((xs.map eRot).all fun r => Nat.beq (List.length r) 4) = true := by simp [eRot]

theorem appWRots (xs : List Rot) (x_begin : Int) (x_every : Int) (x_lead : Int) (x_seed : List Int) : xs.map eRot ++ [[vI x_begin, vI x_every, vI x_lead, .sl (x_seed.map eU8)]] = (xs ++ [(Rot.mk x_begin x_every x_lead x_seed)]).map eRot := by simp [eRot]

theorem setWRots (xs : List Rot) (i : Nat) (x_begin : Int) (x_every : Int) (x_lead : Int) (x_seed : List Int) : (xs.map eRot).set i [vI x_begin, vI x_every, vI x_lead, .sl (x_seed.map eU8)] = (xs.set i (Rot.mk x_begin x_every x_lead x_seed)).map eRot := by simp [eRot, List.map_set]

def eBeat (x : Beat) : Row := [vS x.session, vI x.no, vI x.time, vI x.state, vI x.rate]

theorem eBeat_inj (a b : Beat) (h : eBeat a = eBeat b) : a = b := by
  obtain ⟨a0, a1, a2, a3, a4⟩ := a
  obtain ⟨b0, b1, b2, b3, b4⟩ := b
  simp only [eBeat] at h
  simp [strs_inj, ints_inj, bools_inj, u8s_inj, eEnts_inj, eEnt_iff, eLsts_inj, eLst_iff, eSegs_inj, eSeg_iff, eRots_inj, eRot_iff] at h
  simp_all

theorem eBeats_inj {a b : List Beat} : a.map eBeat = b.map eBeat ↔ a = b := List.map_inj_right eBeat_inj

theorem eBeat_iff {a b : Beat} : eBeat a = eBeat b ↔ a = b := ⟨eBeat_inj a b, fun h => h ▸ rfl⟩

theorem unBeats (xs : List Beat) : unenc (List.map eBeat) (xs.map eBeat) = some xs := unenc_of (fun a b h => eBeats_inj.1 h) xs rfl

theorem etaBeat (x : Beat) : Beat.mk x.session x.no x.time x.state x.rate = x := rfl

theorem appBeats' (xs : List Beat) (x : Beat) : xs.map eBeat ++ [[vS x.session, vI x.no, vI x.time, vI x.state, vI x.rate]] = (xs ++ [x]).map eBeat := by simp [eBeat]

theorem all_Beats (xs : List Beat) : ((xs.map eBeat).all fun r => Nat.beq (List.length r) 5) = true := by simp [eBeat]

theorem appWBeats (xs : List Beat) (x_session : ByteArray) (x_no : Int) (x_time : Int) (x_state : Int) (x_rate : Int) : xs.map eBeat ++ [[vS x_session, vI x_no, vI x_time, vI x_state, vI x_rate]] = (xs ++ [(Beat.mk x_session x_no x_time x_state x_rate)]).map eBeat := by simp [eBeat]

theorem setWBeats (xs : List Beat) (i : Nat) (x_session : ByteArray) (x_no : Int) (x_time : Int) (x_state : Int) (x_rate : Int) : (xs.map eBeat).set i [vS x_session, vI x_no, vI x_time, vI x_state, vI x_rate] = (xs.set i (Beat.mk x_session x_no x_time x_state x_rate)).map eBeat := by simp [eBeat, List.map_set]

def eqBeat (a b : Beat) : Bool := ((a.session.toList == b.session.toList) && ((a.no == b.no) && ((a.time == b.time) && ((a.state == b.state) && ((a.rate == b.rate) && true)))))

theorem eqBeat_refl (a : Beat) : eqBeat a a = true := by simp [eqBeat]

def eSpan (x : Span) : Row := [vI x.fr, vI x.to]

theorem eSpan_inj (a b : Span) (h : eSpan a = eSpan b) : a = b := by
  obtain ⟨a0, a1⟩ := a
  obtain ⟨b0, b1⟩ := b
  simp only [eSpan] at h
  simp [strs_inj, ints_inj, bools_inj, u8s_inj, eEnts_inj, eEnt_iff, eLsts_inj, eLst_iff, eSegs_inj, eSeg_iff, eRots_inj, eRot_iff, eBeats_inj, eBeat_iff] at h
  simp_all

theorem eSpans_inj {a b : List Span} : a.map eSpan = b.map eSpan ↔ a = b := List.map_inj_right eSpan_inj

theorem eSpan_iff {a b : Span} : eSpan a = eSpan b ↔ a = b := ⟨eSpan_inj a b, fun h => h ▸ rfl⟩

theorem unSpans (xs : List Span) : unenc (List.map eSpan) (xs.map eSpan) = some xs := unenc_of (fun a b h => eSpans_inj.1 h) xs rfl

theorem etaSpan (x : Span) : Span.mk x.fr x.to = x := rfl

theorem appSpans' (xs : List Span) (x : Span) : xs.map eSpan ++ [[vI x.fr, vI x.to]] = (xs ++ [x]).map eSpan := by simp [eSpan]

theorem all_Spans (xs : List Span) : ((xs.map eSpan).all fun r => Nat.beq (List.length r) 2) = true := by simp [eSpan]

theorem appWSpans (xs : List Span) (x_fr : Int) (x_to : Int) : xs.map eSpan ++ [[vI x_fr, vI x_to]] = (xs ++ [(Span.mk x_fr x_to)]).map eSpan := by simp [eSpan]

theorem setWSpans (xs : List Span) (i : Nat) (x_fr : Int) (x_to : Int) : (xs.map eSpan).set i [vI x_fr, vI x_to] = (xs.set i (Span.mk x_fr x_to)).map eSpan := by simp [eSpan, List.map_set]

def eqSpan (a b : Span) : Bool := ((a.fr == b.fr) && ((a.to == b.to) && true))

theorem eqSpan_refl (a : Span) : eqSpan a a = true := by simp [eqSpan]

def eHole (x : Hole) : Row := [vS x.session, vI x.fr, vI x.to]

theorem eHole_inj (a b : Hole) (h : eHole a = eHole b) : a = b := by
  obtain ⟨a0, a1, a2⟩ := a
  obtain ⟨b0, b1, b2⟩ := b
  simp only [eHole] at h
  simp [strs_inj, ints_inj, bools_inj, u8s_inj, eEnts_inj, eEnt_iff, eLsts_inj, eLst_iff, eSegs_inj, eSeg_iff, eRots_inj, eRot_iff, eBeats_inj, eBeat_iff, eSpans_inj, eSpan_iff] at h
  simp_all

theorem eHoles_inj {a b : List Hole} : a.map eHole = b.map eHole ↔ a = b := List.map_inj_right eHole_inj

theorem eHole_iff {a b : Hole} : eHole a = eHole b ↔ a = b := ⟨eHole_inj a b, fun h => h ▸ rfl⟩

theorem unHoles (xs : List Hole) : unenc (List.map eHole) (xs.map eHole) = some xs := unenc_of (fun a b h => eHoles_inj.1 h) xs rfl

theorem etaHole (x : Hole) : Hole.mk x.session x.fr x.to = x := rfl

theorem appHoles' (xs : List Hole) (x : Hole) : xs.map eHole ++ [[vS x.session, vI x.fr, vI x.to]] = (xs ++ [x]).map eHole := by simp [eHole]

theorem all_Holes (xs : List Hole) : ((xs.map eHole).all fun r => Nat.beq (List.length r) 3) = true := by simp [eHole]

theorem appWHoles (xs : List Hole) (x_session : ByteArray) (x_fr : Int) (x_to : Int) : xs.map eHole ++ [[vS x_session, vI x_fr, vI x_to]] = (xs ++ [(Hole.mk x_session x_fr x_to)]).map eHole := by simp [eHole]

theorem setWHoles (xs : List Hole) (i : Nat) (x_session : ByteArray) (x_fr : Int) (x_to : Int) : (xs.map eHole).set i [vS x_session, vI x_fr, vI x_to] = (xs.set i (Hole.mk x_session x_fr x_to)).map eHole := by simp [eHole, List.map_set]

def eqHole (a b : Hole) : Bool := ((a.session.toList == b.session.toList) && ((a.fr == b.fr) && ((a.to == b.to) && true)))

theorem eqHole_refl (a : Hole) : eqHole a a = true := by simp [eqHole]

noncomputable def lks : List Lk := [⟨9, lkp eStr ⟨#[]⟩⟩, ⟨3, lkp eI 0⟩, ⟨5, lkp eU8 0⟩, ⟨30, lkp eI 0⟩, ⟨46, lkp eEnt default⟩, ⟨40, lkp eSeg default⟩, ⟨64, lkp eBeat default⟩, ⟨68, lkp eHole default⟩]

theorem lks_ok : ∀ x ∈ lks, LkOK x := by
  simp only [lks, List.forall_mem_cons]
  exact ⟨lkp_ok, lkp_ok, lkp_ok, lkp_ok, lkp_ok, lkp_ok, lkp_ok, lkp_ok, by simp⟩





end M
end Go.Proofs.YtlemjphdhapfpaaGreatDoor
