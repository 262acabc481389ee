/- What is proved here: the data of this part, and how they lie on plain data (no statement of the seat). -/
import Derived.Test.YtnkaadiofjoacaaTys
namespace Go.Proofs.Ytnkaadiofjoacaa
open Go Go.RowKit
set_option linter.unusedVariables false
set_option linter.unusedSimpArgs false

structure Beat where
  session : ByteArray
  no : Int
  time : Int
  state : Int
  rate : Int

instance : Inhabited Beat := ⟨⟨⟨#[]⟩, 0, 0, 0, 0⟩⟩

structure Span where
  fr : Int
  to : Int

instance : Inhabited Span := ⟨⟨0, 0⟩⟩

structure Hole where
  session : ByteArray
  fr : Int
  to : Int

instance : Inhabited Hole := ⟨⟨⟨#[]⟩, 0, 0⟩⟩

structure Level where
  time : Int
  many : Int

instance : Inhabited Level := ⟨⟨0, 0⟩⟩

structure Figs where
  wait : Int
  played : Int
  stalled : Int
  paused : Int
  stalls : Int
  changes : Int
  bits : Int
  ended : Bool

instance : Inhabited Figs := ⟨⟨0, 0, 0, 0, 0, 0, 0, false⟩⟩

structure Ratio where
  num : Int
  den : Int

instance : Inhabited Ratio := ⟨⟨0, 0⟩⟩

structure Rep where
  sessions : Int
  failed : Int
  w50 : Int
  w95 : Int
  stalled : Ratio
  mean : Ratio

instance : Inhabited Rep := ⟨⟨0, 0, 0, 0, default, default⟩⟩

structure Stay where
  beat : Beat
  sp : Span

instance : Inhabited Stay := ⟨⟨default, default⟩⟩

namespace M



abbrev vI (n : Int) : AV := .v (.int .i64 n)

abbrev vU (n : Int) : AV := .v (.int .u8 n)

abbrev vB (b : Bool) : AV := .v (.bool b)

abbrev vS (s : ByteArray) : AV := .v (.string s)

def noG : Nat → Option GR := fun _ => none

theorem wrap_id {n : Int} (h1 : -9223372036854775808 ≤ n) (h2 : n ≤ 9223372036854775807) : IntKind.i64.wrap n = n := by
  simp only [IntKind.wrap, IntKind.signed, IntKind.bits]
  simp
  omega

theorem ble_t {a b : Nat} (h : a ≤ b) : Nat.ble a b = true := by rw [Nat.ble_eq]; exact h

theorem mixed : Try.prog.follows .mixedOrders = true := by kernel_rfl

theorem getD_at {α : Type} {xs : List α} {k : Nat} {y d : α} (h : xs[k]? = some y) : xs.getD k d = y := by simp [List.getD, h]

theorem lt_at {α : Type} {xs : List α} {k : Nat} {y : α} (h : xs[k]? = some y) : k < xs.length := (List.getElem?_eq_some_iff.1 h).1

theorem next_at {k n : Nat} (h : k < n) (hn : n ≤ 9223372036854775807) : IntKind.i64.wrap ((k : Int) + 1) = ((k + 1 : Nat) : Int) := by
  rw [wrap_id (by omega) (by omega)]; rfl

theorem tdiv_nn {a b : Int} (h : 0 ≤ a) : a.tdiv b = a / b := Int.tdiv_eq_ediv_of_nonneg h

theorem cast_lt {k n : Nat} (h : k < n) : decide ((k : Int) < (n : Int)) = true := decide_eq_true (by omega)

theorem cast_ge {n : Nat} : decide ((n : Int) < (n : Int)) = false := decide_eq_false (by omega)

theorem bne0 {x : Int} (h : x = 0) : (x != 0) = false := by simp [h]

theorem bne1 {x : Int} (h : ¬ x = 0) : (x != 0) = true := by simp [h]

def eStr (s : ByteArray) : Row := [vS s]

def eI (n : Int) : Row := [vI n]

def eB (b : Bool) : Row := [vB b]

theorem eStr_inj (a b : ByteArray) (h : eStr a = eStr b) : a = b := by
  simp only [eStr] at h
  grind

theorem eI_inj (a b : Int) (h : eI a = eI b) : a = b := by
  simp only [eI] at h
  grind

theorem eB_inj (a b : Bool) (h : eB a = eB b) : a = b := by
  simp only [eB] at h
  grind

theorem strs_inj {a b : List ByteArray} : a.map eStr = b.map eStr ↔ a = b := List.map_inj_right eStr_inj

theorem ints_inj {a b : List Int} : a.map eI = b.map eI ↔ a = b := List.map_inj_right eI_inj

theorem bools_inj {a b : List Bool} : a.map eB = b.map eB ↔ a = b := List.map_inj_right eB_inj

theorem unStrs (xs : List ByteArray) : unenc (List.map eStr) (xs.map eStr) = some xs := unenc_of (fun a b h => strs_inj.1 h) xs rfl

theorem unInts (xs : List Int) : unenc (List.map eI) (xs.map eI) = some xs := unenc_of (fun a b h => ints_inj.1 h) xs rfl

theorem unBools (xs : List Bool) : unenc (List.map eB) (xs.map eB) = some xs := unenc_of (fun a b h => bools_inj.1 h) xs rfl

theorem appInts' (xs : List Int) (n : Int) : xs.map eI ++ [[vI n]] = (xs ++ [n]).map eI := by simp [eI]

theorem appStrs' (xs : List ByteArray) (s : ByteArray) : xs.map eStr ++ [[vS s]] = (xs ++ [s]).map eStr := by simp [eStr]

theorem all_ints (xs : List Int) : ((xs.map eI).all fun r => Nat.beq (List.length r) 1) = true := by simp [eI]

theorem all_strs (xs : List ByteArray) : ((xs.map eStr).all fun r => Nat.beq (List.length r) 1) = true := by simp [eStr]

def eL_eI (l : List Int) : Row := [.sl (l.map eI)]

theorem eL_eI_inj (a b : List Int) (h : eL_eI a = eL_eI b) : a = b := by
  simp only [eL_eI] at h
  simp [strs_inj, ints_inj, bools_inj] at h
  exact h

theorem eL_eIs_inj {a b : List (List Int)} : a.map eL_eI = b.map eL_eI ↔ a = b := List.map_inj_right eL_eI_inj

theorem uneL_eIs (xs : List (List Int)) : unenc (List.map eL_eI) (xs.map eL_eI) = some xs := unenc_of (fun a b h => eL_eIs_inj.1 h) xs rfl

theorem appeL_eIs' (xs : List (List Int)) (l : List Int) : xs.map eL_eI ++ [[.sl (l.map eI)]] = (xs ++ [l]).map eL_eI := by simp [eL_eI]

theorem all_eL_eIs (xs : List (List Int)) : ((xs.map eL_eI).all fun r => Nat.beq (List.length r) 1) = true := by simp [eL_eI]

def eBeat (x : Beat) : Row := [vS x.session, vI x.no, vI x.time, vI x.state, vI x.rate]

theorem eBeat_inj (a b : Beat) (h : eBeat a = eBeat b) : a = b := by
  obtain ⟨a0, a1, a2, a3, a4⟩ := a
  obtain ⟨b0, b1, b2, b3, b4⟩ := b
  simp only [eBeat] at h
  simp [strs_inj, ints_inj, bools_inj, eL_eIs_inj] at h
  simp_all

theorem eBeats_inj {a b : List Beat} : a.map eBeat = b.map eBeat ↔ a = b := List.map_inj_right eBeat_inj

theorem eBeat_iff {a b : Beat} : eBeat a = eBeat b ↔ a = b := ⟨eBeat_inj a b, fun h => h ▸ rfl⟩

theorem unBeats (xs : List Beat) : unenc (List.map eBeat) (xs.map eBeat) = some xs := unenc_of (fun a b h => eBeats_inj.1 h) xs rfl

theorem etaBeat (x : Beat) : Beat.mk x.session x.no x.time x.state x.rate = x := rfl

theorem appBeats' (xs : List Beat) (x : Beat) : xs.map eBeat ++ [[vS x.session, vI x.no, vI x.time, vI x.state, vI x.rate]] = (xs ++ [x]).map eBeat := by simp [eBeat]

theorem all_Beats (xs : List Beat) : ((xs.map eBeat).all fun r => Nat.beq (List.length r) 5) = true := by simp [eBeat]

theorem appWBeats (xs : List Beat) (x_session : ByteArray) (x_no : Int) (x_time : Int) (x_state : Int) (x_rate : Int) : xs.map eBeat ++ [[vS x_session, vI x_no, vI x_time, vI x_state, vI x_rate]] = (xs ++ [(Beat.mk x_session x_no x_time x_state x_rate)]).map eBeat := by simp [eBeat]

theorem setWBeats (xs : List Beat) (i : Nat) (x_session : ByteArray) (x_no : Int) (x_time : Int) (x_state : Int) (x_rate : Int) : (xs.map eBeat).set i [vS x_session, vI x_no, vI x_time, vI x_state, vI x_rate] = (xs.set i (Beat.mk x_session x_no x_time x_state x_rate)).map eBeat := by simp [eBeat, List.map_set]

def eqBeat (a b : Beat) : Bool := ((a.session.toList == b.session.toList) && ((a.no == b.no) && ((a.time == b.time) && ((a.state == b.state) && ((a.rate == b.rate) && true)))))

theorem eqBeat_refl (a : Beat) : eqBeat a a = true := by simp [eqBeat]

def eL_eBeat (l : List Beat) : Row := [.sl (l.map eBeat)]

theorem eL_eBeat_inj (a b : List Beat) (h : eL_eBeat a = eL_eBeat b) : a = b := by
  simp only [eL_eBeat] at h
  simp [strs_inj, ints_inj, bools_inj, eL_eIs_inj, eBeats_inj, eBeat_iff] at h
  exact h

theorem eL_eBeats_inj {a b : List (List Beat)} : a.map eL_eBeat = b.map eL_eBeat ↔ a = b := List.map_inj_right eL_eBeat_inj

theorem uneL_eBeats (xs : List (List Beat)) : unenc (List.map eL_eBeat) (xs.map eL_eBeat) = some xs := unenc_of (fun a b h => eL_eBeats_inj.1 h) xs rfl

theorem appeL_eBeats' (xs : List (List Beat)) (l : List Beat) : xs.map eL_eBeat ++ [[.sl (l.map eBeat)]] = (xs ++ [l]).map eL_eBeat := by simp [eL_eBeat]

theorem all_eL_eBeats (xs : List (List Beat)) : ((xs.map eL_eBeat).all fun r => Nat.beq (List.length r) 1) = true := by simp [eL_eBeat]

def eSpan (x : Span) : Row := [vI x.fr, vI x.to]

theorem eSpan_inj (a b : Span) (h : eSpan a = eSpan b) : a = b := by
  obtain ⟨a0, a1⟩ := a
  obtain ⟨b0, b1⟩ := b
  simp only [eSpan] at h
  simp [strs_inj, ints_inj, bools_inj, eL_eIs_inj, eBeats_inj, eBeat_iff, eL_eBeats_inj] at h
  simp_all

theorem eSpans_inj {a b : List Span} : a.map eSpan = b.map eSpan ↔ a = b := List.map_inj_right eSpan_inj

theorem eSpan_iff {a b : Span} : eSpan a = eSpan b ↔ a = b := ⟨eSpan_inj a b, fun h => h ▸ rfl⟩

theorem unSpans (xs : List Span) : unenc (List.map eSpan) (xs.map eSpan) = some xs := unenc_of (fun a b h => eSpans_inj.1 h) xs rfl

theorem etaSpan (x : Span) : Span.mk x.fr x.to = x := rfl

theorem appSpans' (xs : List Span) (x : Span) : xs.map eSpan ++ [[vI x.fr, vI x.to]] = (xs ++ [x]).map eSpan := by simp [eSpan]

theorem all_Spans (xs : List Span) : ((xs.map eSpan).all fun r => Nat.beq (List.length r) 2) = true := by simp [eSpan]

theorem appWSpans (xs : List Span) (x_fr : Int) (x_to : Int) : xs.map eSpan ++ [[vI x_fr, vI x_to]] = (xs ++ [(Span.mk x_fr x_to)]).map eSpan := by simp [eSpan]

theorem setWSpans (xs : List Span) (i : Nat) (x_fr : Int) (x_to : Int) : (xs.map eSpan).set i [vI x_fr, vI x_to] = (xs.set i (Span.mk x_fr x_to)).map eSpan := by simp [eSpan, List.map_set]

def eqSpan (a b : Span) : Bool := ((a.fr == b.fr) && ((a.to == b.to) && true))

theorem eqSpan_refl (a : Span) : eqSpan a a = true := by simp [eqSpan]

def eHole (x : Hole) : Row := [vS x.session, vI x.fr, vI x.to]

theorem eHole_inj (a b : Hole) (h : eHole a = eHole b) : a = b := by
  obtain ⟨a0, a1, a2⟩ := a
  obtain ⟨b0, b1, b2⟩ := b
  simp only [eHole] at h
  simp [strs_inj, ints_inj, bools_inj, eL_eIs_inj, eBeats_inj, eBeat_iff, eL_eBeats_inj, eSpans_inj, eSpan_iff] at h
  simp_all

theorem eHoles_inj {a b : List Hole} : a.map eHole = b.map eHole ↔ a = b := List.map_inj_right eHole_inj

theorem eHole_iff {a b : Hole} : eHole a = eHole b ↔ a = b := ⟨eHole_inj a b, fun h => h ▸ rfl⟩

theorem unHoles (xs : List Hole) : unenc (List.map eHole) (xs.map eHole) = some xs := unenc_of (fun a b h => eHoles_inj.1 h) xs rfl

theorem etaHole (x : Hole) : Hole.mk x.session x.fr x.to = x := rfl

theorem appHoles' (xs : List Hole) (x : Hole) : xs.map eHole ++ [[vS x.session, vI x.fr, vI x.to]] = (xs ++ [x]).map eHole := by simp [eHole]

theorem all_Holes (xs : List Hole) : ((xs.map eHole).all fun r => Nat.beq (List.length r) 3) = true := by simp [eHole]

theorem appWHoles (xs : List Hole) (x_session : ByteArray) (x_fr : Int) (x_to : Int) : xs.map eHole ++ [[vS x_session, vI x_fr, vI x_to]] = (xs ++ [(Hole.mk x_session x_fr x_to)]).map eHole := by simp [eHole]

theorem setWHoles (xs : List Hole) (i : Nat) (x_session : ByteArray) (x_fr : Int) (x_to : Int) : (xs.map eHole).set i [vS x_session, vI x_fr, vI x_to] = (xs.set i (Hole.mk x_session x_fr x_to)).map eHole := by simp [eHole, List.map_set]

def eqHole (a b : Hole) : Bool := ((a.session.toList == b.session.toList) && ((a.fr == b.fr) && ((a.to == b.to) && true)))

theorem eqHole_refl (a : Hole) : eqHole a a = true := by simp [eqHole]

def eLevel (x : Level) : Row := [vI x.time, vI x.many]

theorem eLevel_inj (a b : Level) (h : eLevel a = eLevel b) : a = b := by
  obtain ⟨a0, a1⟩ := a
  obtain ⟨b0, b1⟩ := b
  simp only [eLevel] at h
  simp [strs_inj, ints_inj, bools_inj, eL_eIs_inj, eBeats_inj, eBeat_iff, eL_eBeats_inj, eSpans_inj, eSpan_iff, eHoles_inj, eHole_iff] at h
  simp_all

theorem eLevels_inj {a b : List Level} : a.map eLevel = b.map eLevel ↔ a = b := List.map_inj_right eLevel_inj

theorem eLevel_iff {a b : Level} : eLevel a = eLevel b ↔ a = b := ⟨eLevel_inj a b, fun h => h ▸ rfl⟩

theorem unLevels (xs : List Level) : unenc (List.map eLevel) (xs.map eLevel) = some xs := unenc_of (fun a b h => eLevels_inj.1 h) xs rfl

theorem etaLevel (x : Level) : Level.mk x.time x.many = x := rfl

theorem appLevels' (xs : List Level) (x : Level) : xs.map eLevel ++ [[vI x.time, vI x.many]] = (xs ++ [x]).map eLevel := by simp [eLevel]

theorem all_Levels (xs : List Level) : ((xs.map eLevel).all fun r => Nat.beq (List.length r) 2) = true := by simp [eLevel]

theorem appWLevels (xs : List Level) (x_time : Int) (x_many : Int) : xs.map eLevel ++ [[vI x_time, vI x_many]] = (xs ++ [(Level.mk x_time x_many)]).map eLevel := by simp [eLevel]

theorem setWLevels (xs : List Level) (i : Nat) (x_time : Int) (x_many : Int) : (xs.map eLevel).set i [vI x_time, vI x_many] = (xs.set i (Level.mk x_time x_many)).map eLevel := by simp [eLevel, List.map_set]

def eqLevel (a b : Level) : Bool := ((a.time == b.time) && ((a.many == b.many) && true))

theorem eqLevel_refl (a : Level) : eqLevel a a = true := by simp [eqLevel]

def eFigs (x : Figs) : Row := [vI x.wait, vI x.played, vI x.stalled, vI x.paused, vI x.stalls, vI x.changes, vI x.bits, vB x.ended]

theorem eFigs_inj (a b : Figs) (h : eFigs a = eFigs b) : a = b := by
  obtain ⟨a0, a1, a2, a3, a4, a5, a6, a7⟩ := a
  obtain ⟨b0, b1, b2, b3, b4, b5, b6, b7⟩ := b
  simp only [eFigs] at h
  simp [strs_inj, ints_inj, bools_inj, eL_eIs_inj, eBeats_inj, eBeat_iff, eL_eBeats_inj, eSpans_inj, eSpan_iff, eHoles_inj, eHole_iff, eLevels_inj, eLevel_iff] at h
  simp_all

theorem eFigss_inj {a b : List Figs} : a.map eFigs = b.map eFigs ↔ a = b := List.map_inj_right eFigs_inj

theorem eFigs_iff {a b : Figs} : eFigs a = eFigs b ↔ a = b := ⟨eFigs_inj a b, fun h => h ▸ rfl⟩

theorem unFigss (xs : List Figs) : unenc (List.map eFigs) (xs.map eFigs) = some xs := unenc_of (fun a b h => eFigss_inj.1 h) xs rfl

theorem etaFigs (x : Figs) : Figs.mk x.wait x.played x.stalled x.paused x.stalls x.changes x.bits x.ended = x := rfl

theorem appFigss' (xs : List Figs) (x : Figs) : xs.map eFigs ++ [[vI x.wait, vI x.played, vI x.stalled, vI x.paused, vI x.stalls, vI x.changes, vI x.bits, vB x.ended]] = (xs ++ [x]).map eFigs := by simp [eFigs]

theorem all_Figss (xs : List Figs) : ((xs.map eFigs).all fun r => Nat.beq (List.length r) 8) = true := by simp [eFigs]

theorem appWFigss (xs : List Figs) (x_wait : Int) (x_played : Int) (x_stalled : Int) (x_paused : Int) (x_stalls : Int) (x_changes : Int) (x_bits : Int) (x_ended : Bool) : xs.map eFigs ++ [[vI x_wait, vI x_played, vI x_stalled, vI x_paused, vI x_stalls, vI x_changes, vI x_bits, vB x_ended]] = (xs ++ [(Figs.mk x_wait x_played x_stalled x_paused x_stalls x_changes x_bits x_ended)]).map eFigs := by simp [eFigs]

theorem setWFigss (xs : List Figs) (i : Nat) (x_wait : Int) (x_played : Int) (x_stalled : Int) (x_paused : Int) (x_stalls : Int) (x_changes : Int) (x_bits : Int) (x_ended : Bool) : (xs.map eFigs).set i [vI x_wait, vI x_played, vI x_stalled, vI x_paused, vI x_stalls, vI x_changes, vI x_bits, vB x_ended] = (xs.set i (Figs.mk x_wait x_played x_stalled x_paused x_stalls x_changes x_bits x_ended)).map eFigs := by simp [eFigs, List.map_set]

def eqFigs (a b : Figs) : Bool := ((a.wait == b.wait) && ((a.played == b.played) && ((a.stalled == b.stalled) && ((a.paused == b.paused) && ((a.stalls == b.stalls) && ((a.changes == b.changes) && ((a.bits == b.bits) && ((a.ended == b.ended) && true))))))))

theorem eqFigs_refl (a : Figs) : eqFigs a a = true := by simp [eqFigs]

def eRatio (x : Ratio) : Row := [vI x.num, vI x.den]

theorem eRatio_inj (a b : Ratio) (h : eRatio a = eRatio b) : a = b := by
  obtain ⟨a0, a1⟩ := a
  obtain ⟨b0, b1⟩ := b
  simp only [eRatio] at h
  simp [strs_inj, ints_inj, bools_inj, eL_eIs_inj, eBeats_inj, eBeat_iff, eL_eBeats_inj, eSpans_inj, eSpan_iff, eHoles_inj, eHole_iff, eLevels_inj, eLevel_iff, eFigss_inj, eFigs_iff] at h
  simp_all

theorem eRatios_inj {a b : List Ratio} : a.map eRatio = b.map eRatio ↔ a = b := List.map_inj_right eRatio_inj

theorem eRatio_iff {a b : Ratio} : eRatio a = eRatio b ↔ a = b := ⟨eRatio_inj a b, fun h => h ▸ rfl⟩

theorem unRatios (xs : List Ratio) : unenc (List.map eRatio) (xs.map eRatio) = some xs := unenc_of (fun a b h => eRatios_inj.1 h) xs rfl

theorem etaRatio (x : Ratio) : Ratio.mk x.num x.den = x := rfl

theorem appRatios' (xs : List Ratio) (x : Ratio) : xs.map eRatio ++ [[vI x.num, vI x.den]] = (xs ++ [x]).map eRatio := by simp [eRatio]

theorem all_Ratios (xs : List Ratio) : ((xs.map eRatio).all fun r => Nat.beq (List.length r) 2) = true := by simp [eRatio]

theorem appWRatios (xs : List Ratio) (x_num : Int) (x_den : Int) : xs.map eRatio ++ [[vI x_num, vI x_den]] = (xs ++ [(Ratio.mk x_num x_den)]).map eRatio := by simp [eRatio]

theorem setWRatios (xs : List Ratio) (i : Nat) (x_num : Int) (x_den : Int) : (xs.map eRatio).set i [vI x_num, vI x_den] = (xs.set i (Ratio.mk x_num x_den)).map eRatio := by simp [eRatio, List.map_set]

def eqRatio (a b : Ratio) : Bool := ((a.num == b.num) && ((a.den == b.den) && true))

theorem eqRatio_refl (a : Ratio) : eqRatio a a = true := by simp [eqRatio]

def eRep (x : Rep) : Row := [vI x.sessions, vI x.failed, vI x.w50, vI x.w95, vI x.stalled.num, vI x.stalled.den, vI x.mean.num, vI x.mean.den]

theorem eRep_inj (a b : Rep) (h : eRep a = eRep b) : a = b := by
  obtain ⟨a0, a1, a2, a3, ⟨a4_0, a4_1⟩, ⟨a5_0, a5_1⟩⟩ := a
  obtain ⟨b0, b1, b2, b3, ⟨b4_0, b4_1⟩, ⟨b5_0, b5_1⟩⟩ := b
  simp only [eRep] at h
  simp [strs_inj, ints_inj, bools_inj, eL_eIs_inj, eBeats_inj, eBeat_iff, eL_eBeats_inj, eSpans_inj, eSpan_iff, eHoles_inj, eHole_iff, eLevels_inj, eLevel_iff, eFigss_inj, eFigs_iff, eRatios_inj, eRatio_iff] at h
  simp_all

theorem eReps_inj {a b : List Rep} : a.map eRep = b.map eRep ↔ a = b := List.map_inj_right eRep_inj

theorem eRep_iff {a b : Rep} : eRep a = eRep b ↔ a = b := ⟨eRep_inj a b, fun h => h ▸ rfl⟩

theorem unReps (xs : List Rep) : unenc (List.map eRep) (xs.map eRep) = some xs := unenc_of (fun a b h => eReps_inj.1 h) xs rfl

theorem etaRep (x : Rep) : Rep.mk x.sessions x.failed x.w50 x.w95 x.stalled x.mean = x := rfl

theorem appReps' (xs : List Rep) (x : Rep) : xs.map eRep ++ [[vI x.sessions, vI x.failed, vI x.w50, vI x.w95, vI x.stalled.num, vI x.stalled.den, vI x.mean.num, vI x.mean.den]] = (xs ++ [x]).map eRep := by simp [eRep]

theorem all_Reps (xs : List Rep) : ((xs.map eRep).all fun r => Nat.beq (List.length r) 8) = true := by simp [eRep]

theorem appWReps (xs : List Rep) (x_sessions : Int) (x_failed : Int) (x_w50 : Int) (x_w95 : Int) (x_stalled_num : Int) (x_stalled_den : Int) (x_mean_num : Int) (x_mean_den : Int) : xs.map eRep ++ [[vI x_sessions, vI x_failed, vI x_w50, vI x_w95, vI x_stalled_num, vI x_stalled_den, vI x_mean_num, vI x_mean_den]] = (xs ++ [(Rep.mk x_sessions x_failed x_w50 x_w95 (Ratio.mk x_stalled_num x_stalled_den) (Ratio.mk x_mean_num x_mean_den))]).map eRep := by simp [eRep]

theorem setWReps (xs : List Rep) (i : Nat) (x_sessions : Int) (x_failed : Int) (x_w50 : Int) (x_w95 : Int) (x_stalled_num : Int) (x_stalled_den : Int) (x_mean_num : Int) (x_mean_den : Int) : (xs.map eRep).set i [vI x_sessions, vI x_failed, vI x_w50, vI x_w95, vI x_stalled_num, vI x_stalled_den, vI x_mean_num, vI x_mean_den] = (xs.set i (Rep.mk x_sessions x_failed x_w50 x_w95 (Ratio.mk x_stalled_num x_stalled_den) (Ratio.mk x_mean_num x_mean_den))).map eRep := by simp [eRep, List.map_set]

def eqRep (a b : Rep) : Bool := ((a.sessions == b.sessions) && ((a.failed == b.failed) && ((a.w50 == b.w50) && ((a.w95 == b.w95) && ((a.stalled.num == b.stalled.num) && ((a.stalled.den == b.stalled.den) && ((a.mean.num == b.mean.num) && ((a.mean.den == b.mean.den) && true))))))))

theorem eqRep_refl (a : Rep) : eqRep a a = true := by simp [eqRep]

def eStay (x : Stay) : Row := [vS x.beat.session, vI x.beat.no, vI x.beat.time, vI x.beat.state, vI x.beat.rate, vI x.sp.fr, vI x.sp.to]

theorem eStay_inj (a b : Stay) (h : eStay a = eStay b) : a = b := by
  obtain ⟨⟨a0_0, a0_1, a0_2, a0_3, a0_4⟩, ⟨a1_0, a1_1⟩⟩ := a
  obtain ⟨⟨b0_0, b0_1, b0_2, b0_3, b0_4⟩, ⟨b1_0, b1_1⟩⟩ := b
  simp only [eStay] at h
  simp [strs_inj, ints_inj, bools_inj, eL_eIs_inj, eBeats_inj, eBeat_iff, eL_eBeats_inj, eSpans_inj, eSpan_iff, eHoles_inj, eHole_iff, eLevels_inj, eLevel_iff, eFigss_inj, eFigs_iff, eRatios_inj, eRatio_iff, eReps_inj, eRep_iff] at h
  simp_all

theorem eStays_inj {a b : List Stay} : a.map eStay = b.map eStay ↔ a = b := List.map_inj_right eStay_inj

theorem eStay_iff {a b : Stay} : eStay a = eStay b ↔ a = b := ⟨eStay_inj a b, fun h => h ▸ rfl⟩

theorem unStays (xs : List Stay) : unenc (List.map eStay) (xs.map eStay) = some xs := unenc_of (fun a b h => eStays_inj.1 h) xs rfl

theorem etaStay (x : Stay) : Stay.mk x.beat x.sp = x := rfl

theorem appStays' (xs : List Stay) (x : Stay) : xs.map eStay ++ [[vS x.beat.session, vI x.beat.no, vI x.beat.time, vI x.beat.state, vI x.beat.rate, vI x.sp.fr, vI x.sp.to]] = (xs ++ [x]).map eStay := by simp [eStay]

theorem all_Stays (xs : List Stay) : ((xs.map eStay).all fun r => Nat.beq (List.length r) 7) = true := by simp [eStay]

theorem appWStays (xs : List Stay) (x_beat_session : ByteArray) (x_beat_no : Int) (x_beat_time : Int) (x_beat_state : Int) (x_beat_rate : Int) (x_sp_fr : Int) (x_sp_to : Int) : xs.map eStay ++ [[vS x_beat_session, vI x_beat_no, vI x_beat_time, vI x_beat_state, vI x_beat_rate, vI x_sp_fr, vI x_sp_to]] = (xs ++ [(Stay.mk (Beat.mk x_beat_session x_beat_no x_beat_time x_beat_state x_beat_rate) (Span.mk x_sp_fr x_sp_to))]).map eStay := by simp [eStay]

theorem setWStays (xs : List Stay) (i : Nat) (x_beat_session : ByteArray) (x_beat_no : Int) (x_beat_time : Int) (x_beat_state : Int) (x_beat_rate : Int) (x_sp_fr : Int) (x_sp_to : Int) : (xs.map eStay).set i [vS x_beat_session, vI x_beat_no, vI x_beat_time, vI x_beat_state, vI x_beat_rate, vI x_sp_fr, vI x_sp_to] = (xs.set i (Stay.mk (Beat.mk x_beat_session x_beat_no x_beat_time x_beat_state x_beat_rate) (Span.mk x_sp_fr x_sp_to))).map eStay := by simp [eStay, List.map_set]

def eqStay (a b : Stay) : Bool := ((a.beat.session.toList == b.beat.session.toList) && ((a.beat.no == b.beat.no) && ((a.beat.time == b.beat.time) && ((a.beat.state == b.beat.state) && ((a.beat.rate == b.beat.rate) && ((a.sp.fr == b.sp.fr) && ((a.sp.to == b.sp.to) && true)))))))

theorem eqStay_refl (a : Stay) : eqStay a a = true := by simp [eqStay]

noncomputable def lks : List Lk := [⟨9, lkp eStr ⟨#[]⟩⟩, ⟨3, lkp eI 0⟩, ⟨26, lkp eI 0⟩, ⟨38, lkp eBeat default⟩, ⟨24, lkp eSpan default⟩, ⟨64, lkp eHole default⟩, ⟨30, lkp eLevel default⟩, ⟨70, lkp eStay default⟩, ⟨22, lkp eL_eBeat []⟩, ⟨75, lkp eL_eI []⟩]

theorem lks_ok : ∀ x ∈ lks, LkOK x := by
  simp only [lks, List.forall_mem_cons]
  exact ⟨lkp_ok, lkp_ok, lkp_ok, lkp_ok, lkp_ok, lkp_ok, lkp_ok, lkp_ok, lkp_ok, lkp_ok, by simp⟩





end M
end Go.Proofs.Ytnkaadiofjoacaa
