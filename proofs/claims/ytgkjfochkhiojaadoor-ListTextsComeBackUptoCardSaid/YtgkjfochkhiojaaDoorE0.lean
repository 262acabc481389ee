/- What is proved here: the data of playlists and clients, and how they lie on plain data (no statement of the seat). -/
import Derived.Test.YtgkjfochkhiojaaDoorTys
import Derived.Lib.ItoaNum
namespace Go.Proofs.YtgkjfochkhiojaaDoor
open Go Go.RowKit
set_option linter.unusedVariables false
set_option linter.unusedSimpArgs false

/-- An entry of a playlist. -/
structure Ent where
  uri : ByteArray
  milli : Int
  brk : Bool
  date : Int
  key : ByteArray
  gap : Bool
  extra : List ByteArray

/-- A playlist. -/
structure Lst where
  target : Int
  first : Int
  breaks : Int
  entries : List Ent
  ended : Bool

/-- An item of a client's queue. -/
structure Itm where
  number : Int
  entry : Ent

/-- A client. -/
structure Cli where
  begun : Bool
  next : Int
  last : Lst
  queue : List Itm
  lost : Int

/-- A change of a list. -/
structure Trn where
  kind : Int
  entry : Ent
  keep : Int

instance : Inhabited Ent := ⟨⟨⟨#[]⟩, 0, false, 0, ⟨#[]⟩, false, []⟩⟩

instance : Inhabited Lst := ⟨⟨0, 0, 0, [], false⟩⟩

instance : Inhabited Itm := ⟨⟨0, default⟩⟩

instance : Inhabited Trn := ⟨⟨0, default, 0⟩⟩

namespace M


abbrev vI (n : Int) : AV := .v (.int .i64 n)

abbrev vU (n : Int) : AV := .v (.int .u8 n)

abbrev vB (b : Bool) : AV := .v (.bool b)

abbrev vS (s : ByteArray) : AV := .v (.string s)

/-- The package-level variables that library functions read: a number of internal/bytealg, and a table of internal/strconv. -/
noncomputable def noG : Nat → Option GR := fun g => match Nat.beq g 3 with
  | true => some ⟨[], fun cs => ∃ m, cs[0]? = some (Value.int .i64 m)⟩
  | false => match Nat.beq g 2 with
    | true => some ⟨[], fun cs => cs = (Lib.pow10Tab.map fun z => Value.int .u64 z).toArray⟩
    | false => none


theorem wrap_id {n : Int} (h1 : -9223372036854775808 ≤ n) (h2 : n ≤ 9223372036854775807) : IntKind.i64.wrap n = n := by
  simp only [IntKind.wrap, IntKind.signed, IntKind.bits]
  simp
  omega

theorem ble_t {a b : Nat} (h : a ≤ b) : Nat.ble a b = true := by rw [Nat.ble_eq]; exact h

theorem mixed : Tryd.prog.follows .mixedOrders = true := by kernel_rfl

theorem getD_at {α : Type} {xs : List α} {k : Nat} {y d : α} (h : xs[k]? = some y) : xs.getD k d = y := by simp [List.getD, h]

theorem lt_at {α : Type} {xs : List α} {k : Nat} {y : α} (h : xs[k]? = some y) : k < xs.length := (List.getElem?_eq_some_iff.1 h).1

theorem next_at {k n : Nat} (h : k < n) (hn : n ≤ 9223372036854775807) : IntKind.i64.wrap ((k : Int) + 1) = ((k + 1 : Nat) : Int) := by
  rw [wrap_id (by omega) (by omega)]; rfl

theorem tdiv_nn {a b : Int} (h : 0 ≤ a) : a.tdiv b = a / b := Int.tdiv_eq_ediv_of_nonneg h

theorem cast_lt {k n : Nat} (h : k < n) : decide ((k : Int) < (n : Int)) = true := decide_eq_true (by omega)

theorem cast_ge {n : Nat} : decide ((n : Int) < (n : Int)) = false := decide_eq_false (by omega)

def eStr (s : ByteArray) : Row := [vS s]

def eI (n : Int) : Row := [vI n]

def eB (b : Bool) : Row := [vB b]

def eEnt (e : Ent) : Row := [vS e.uri, vI e.milli, vB e.brk, vI e.date, vS e.key, vB e.gap, .sl (e.extra.map eStr)]

def eLst (l : Lst) : Row := [vI l.target, vI l.first, vI l.breaks, .sl (l.entries.map eEnt), vB l.ended]

def eItm (x : Itm) : Row := [vI x.number, vS x.entry.uri, vI x.entry.milli, vB x.entry.brk, vI x.entry.date, vS x.entry.key, vB x.entry.gap, .sl (x.entry.extra.map eStr)]

def eCli (c : Cli) : Row := [vB c.begun, vI c.next, vI c.last.target, vI c.last.first, vI c.last.breaks, .sl (c.last.entries.map eEnt), vB c.last.ended, .sl (c.queue.map eItm), vI c.lost]

def eTrn (x : Trn) : Row := [vI x.kind, vS x.entry.uri, vI x.entry.milli, vB x.entry.brk, vI x.entry.date, vS x.entry.key, vB x.entry.gap, .sl (x.entry.extra.map eStr), vI x.keep]

theorem eStr_inj (a b : ByteArray) (h : eStr a = eStr b) : a = b := by
  simp only [eStr] at h
  grind

theorem eI_inj (a b : Int) (h : eI a = eI b) : a = b := by
  simp only [eI] at h
  grind

theorem eB_inj (a b : Bool) (h : eB a = eB b) : a = b := by
  simp only [eB] at h
  grind

theorem bools_inj {a b : List Bool} : a.map eB = b.map eB ↔ a = b := List.map_inj_right eB_inj

theorem strs_inj {a b : List ByteArray} : a.map eStr = b.map eStr ↔ a = b := List.map_inj_right eStr_inj

theorem ints_inj {a b : List Int} : a.map eI = b.map eI ↔ a = b := List.map_inj_right eI_inj

theorem eEnt_inj (a b : Ent) (h : eEnt a = eEnt b) : a = b := by
  simp only [eEnt] at h
  simp [strs_inj] at h
  cases a
  cases b
  simp_all

theorem ents_inj {a b : List Ent} : a.map eEnt = b.map eEnt ↔ a = b := List.map_inj_right eEnt_inj

theorem eLst_inj (a b : Lst) (h : eLst a = eLst b) : a = b := by
  simp only [eLst] at h
  simp [ents_inj] at h
  cases a
  cases b
  simp_all

theorem eItm_inj (a b : Itm) (h : eItm a = eItm b) : a = b := by
  obtain ⟨n, e⟩ := a
  obtain ⟨n', e'⟩ := b
  have h1 : n = n' ∧ eEnt e = eEnt e' := by
    simp only [eItm, eEnt] at h ⊢
    simp only [List.cons.injEq] at h ⊢
    exact ⟨by have := h.1; simp at this; exact this, h.2⟩
  rw [h1.1, eEnt_inj _ _ h1.2]

theorem itms_inj {a b : List Itm} : a.map eItm = b.map eItm ↔ a = b := List.map_inj_right eItm_inj

theorem eTrn_inj (a b : Trn) (h : eTrn a = eTrn b) : a = b := by
  obtain ⟨n, e, k⟩ := a
  obtain ⟨n', e', k'⟩ := b
  obtain ⟨u, m, br, d, ke, g, x⟩ := e
  obtain ⟨u', m', br', d', ke', g', x'⟩ := e'
  simp only [eTrn] at h
  simp [strs_inj] at h
  simp_all

theorem trns_inj {a b : List Trn} : a.map eTrn = b.map eTrn ↔ a = b := List.map_inj_right eTrn_inj

theorem eStr_iff {a b : ByteArray} : eStr a = eStr b ↔ a = b := ⟨eStr_inj a b, fun h => h ▸ rfl⟩

theorem eI_iff {a b : Int} : eI a = eI b ↔ a = b := ⟨eI_inj a b, fun h => h ▸ rfl⟩

theorem eEnt_iff {a b : Ent} : eEnt a = eEnt b ↔ a = b := ⟨eEnt_inj a b, fun h => h ▸ rfl⟩

theorem eLst_iff {a b : Lst} : eLst a = eLst b ↔ a = b := ⟨eLst_inj a b, fun h => h ▸ rfl⟩

theorem eItm_iff {a b : Itm} : eItm a = eItm b ↔ a = b := ⟨eItm_inj a b, fun h => h ▸ rfl⟩

theorem eTrn_iff {a b : Trn} : eTrn a = eTrn b ↔ a = b := ⟨eTrn_inj a b, fun h => h ▸ rfl⟩

theorem eCli_inj (a b : Cli) (h : eCli a = eCli b) : a = b := by
  obtain ⟨b1, n, l, q, lo⟩ := a
  obtain ⟨b1', n', l', q', lo'⟩ := b
  obtain ⟨t, f, br, es, en⟩ := l
  obtain ⟨t', f', br', es', en'⟩ := l'
  simp only [eCli] at h
  simp [ents_inj, itms_inj] at h
  simp_all

theorem eCli_iff {a b : Cli} : eCli a = eCli b ↔ a = b := ⟨eCli_inj a b, fun h => h ▸ rfl⟩

theorem unStrs (xs : List ByteArray) : unenc (List.map eStr) (xs.map eStr) = some xs := unenc_of (fun a b h => strs_inj.1 h) xs rfl

theorem unInts (xs : List Int) : unenc (List.map eI) (xs.map eI) = some xs := unenc_of (fun a b h => ints_inj.1 h) xs rfl

theorem unBools (xs : List Bool) : unenc (List.map eB) (xs.map eB) = some xs := unenc_of (fun a b h => bools_inj.1 h) xs rfl

theorem unEnts (xs : List Ent) : unenc (List.map eEnt) (xs.map eEnt) = some xs := unenc_of (fun a b h => ents_inj.1 h) xs rfl

theorem unItms (xs : List Itm) : unenc (List.map eItm) (xs.map eItm) = some xs := unenc_of (fun a b h => itms_inj.1 h) xs rfl

theorem appEnts (xs : List Ent) (e : Ent) : xs.map eEnt ++ [eEnt e] = (xs ++ [e]).map eEnt := by simp

theorem etaLst (l : Lst) : Lst.mk l.target l.first l.breaks l.entries l.ended = l := rfl

theorem etaEnt (e : Ent) : Ent.mk e.uri e.milli e.brk e.date e.key e.gap e.extra = e := rfl

theorem unTrns (xs : List Trn) : unenc (List.map eTrn) (xs.map eTrn) = some xs := unenc_of (fun a b h => trns_inj.1 h) xs rfl

noncomputable def lks : List Lk := [⟨9, lkp eStr ⟨#[]⟩⟩, ⟨3, lkp eI 0⟩, ⟨25, lkp eI 0⟩, ⟨44, lkp eEnt default⟩, ⟨4, lkp eB false⟩]

theorem lks_ok : ∀ x ∈ lks, LkOK x := by
  simp only [lks, List.forall_mem_cons]
  exact ⟨lkp_ok, lkp_ok, lkp_ok, lkp_ok, lkp_ok, by simp⟩


end M
end Go.Proofs.YtgkjfochkhiojaaDoor
