/- What is proved here: the data of this part, and how they lie on plain data (no statement of the seat). -/
import Derived.Test.YthcfbeckhgngiaaGreatDoorTys
import Derived.Lib.LaidU8
import Derived.Lib.ItoaNum
namespace Go.Proofs.YthcfbeckhgngiaaGreatDoor
open Go Go.RowKit
set_option linter.unusedVariables false
set_option linter.unusedSimpArgs false

structure Cap where
  fr : Int
  to : Int
  lines : List ByteArray
  row : Int
  bef : Bool
  aft : Bool

instance : Inhabited Cap := ⟨⟨0, 0, [], 0, false, false⟩⟩

structure Mch where
  was : Int
  now : Int

instance : Inhabited Mch := ⟨⟨0, 0⟩⟩

structure Wrd where
  time : Int
  text : ByteArray

instance : Inhabited Wrd := ⟨⟨0, ⟨#[]⟩⟩⟩

structure Fnd where
  cap : Int
  line : Int
  pos : Int

instance : Inhabited Fnd := ⟨⟨0, 0, 0⟩⟩

structure Ratio where
  num : Int
  den : Int

instance : Inhabited Ratio := ⟨⟨0, 0⟩⟩

structure Way where
  lines : Int
  sum : Int
  next : Int

instance : Inhabited Way := ⟨⟨0, 0, 0⟩⟩

namespace M



abbrev vI (n : Int) : AV := .v (.int .i64 n)

abbrev vU (n : Int) : AV := .v (.int .u8 n)

abbrev vB (b : Bool) : AV := .v (.bool b)

abbrev vS (s : ByteArray) : AV := .v (.string s)

/-- The package-level variables that library functions read: two tables of unicode/utf8, a number of internal/bytealg, and a table of internal/strconv. -/
noncomputable def noG : Nat → Option GR := fun g => match Nat.beq g 0 with
  | true => some ⟨[], fun cs => ∀ c, c < 256 → cs[c]? = some (Value.int .u8 (Lib.firstT c))⟩
  | false => match Nat.beq g 1 with
    | true => some ⟨[], fun cs => ∀ i, i < 16 → cs[2 * i]? = some (Value.int .u8 (Lib.accLo i)) ∧ cs[2 * i + 1]? = some (Value.int .u8 (Lib.accHi i))⟩
    | false => match Nat.beq g 2 with
      | true => some ⟨[], fun cs => ∃ m, cs[0]? = some (Value.int .i64 m)⟩
      | false => match Nat.beq g 5 with
        | true => some ⟨[], fun cs => cs = (Lib.pow10Tab.map fun z => Value.int .u64 z).toArray⟩
        | false => none


theorem wrap_id {n : Int} (h1 : -9223372036854775808 ≤ n) (h2 : n ≤ 9223372036854775807) : IntKind.i64.wrap n = n := by
  simp only [IntKind.wrap, IntKind.signed, IntKind.bits]
  simp
  omega

theorem ble_t {a b : Nat} (h : a ≤ b) : Nat.ble a b = true := by rw [Nat.ble_eq]; exact h

theorem mixed : Tryz.prog.follows .mixedOrders = true := by kernel_rfl

theorem getD_at {α : Type} {xs : List α} {k : Nat} {y d : α} (h : xs[k]? = some y) : xs.getD k d = y := by simp [List.getD, h]

theorem lt_at {α : Type} {xs : List α} {k : Nat} {y : α} (h : xs[k]? = some y) : k < xs.length := (List.getElem?_eq_some_iff.1 h).1

theorem next_at {k n : Nat} (h : k < n) (hn : n ≤ 9223372036854775807) : IntKind.i64.wrap ((k : Int) + 1) = ((k + 1 : Nat) : Int) := by
  rw [wrap_id (by omega) (by omega)]; rfl

theorem tdiv_nn {a b : Int} (h : 0 ≤ a) : a.tdiv b = a / b := Int.tdiv_eq_ediv_of_nonneg h

theorem cast_lt {k n : Nat} (h : k < n) : decide ((k : Int) < (n : Int)) = true := decide_eq_true (by omega)

theorem cast_ge {n : Nat} : decide ((n : Int) < (n : Int)) = false := decide_eq_false (by omega)

theorem bne0 {x : Int} (h : x = 0) : (x != 0) = false := by simp [h]

theorem bne1 {x : Int} (h : ¬ x = 0) : (x != 0) = true := by simp [h]

def eStr (s : ByteArray) : Row := [vS s]

def eI (n : Int) : Row := [vI n]

def eB (b : Bool) : Row := [vB b]

theorem eStr_inj (a b : ByteArray) (h : eStr a = eStr b) : a = b := by
  simp only [eStr] at h
  grind

theorem eI_inj (a b : Int) (h : eI a = eI b) : a = b := by
  simp only [eI] at h
  grind

theorem eB_inj (a b : Bool) (h : eB a = eB b) : a = b := by
  simp only [eB] at h
  grind

theorem strs_inj {a b : List ByteArray} : a.map eStr = b.map eStr ↔ a = b := List.map_inj_right eStr_inj

theorem ints_inj {a b : List Int} : a.map eI = b.map eI ↔ a = b := List.map_inj_right eI_inj

theorem bools_inj {a b : List Bool} : a.map eB = b.map eB ↔ a = b := List.map_inj_right eB_inj

theorem unStrs (xs : List ByteArray) : unenc (List.map eStr) (xs.map eStr) = some xs := unenc_of (fun a b h => strs_inj.1 h) xs rfl

theorem unInts (xs : List Int) : unenc (List.map eI) (xs.map eI) = some xs := unenc_of (fun a b h => ints_inj.1 h) xs rfl

theorem unBools (xs : List Bool) : unenc (List.map eB) (xs.map eB) = some xs := unenc_of (fun a b h => bools_inj.1 h) xs rfl

theorem appInts' (xs : List Int) (n : Int) : xs.map eI ++ [[vI n]] = (xs ++ [n]).map eI := by simp [eI]

theorem appStrs' (xs : List ByteArray) (s : ByteArray) : xs.map eStr ++ [[vS s]] = (xs ++ [s]).map eStr := by simp [eStr]

theorem all_ints (xs : List Int) : ((xs.map eI).all fun r => Nat.beq (List.length r) 1) = true := by simp [eI]

theorem all_strs (xs : List ByteArray) : ((xs.map eStr).all fun r => Nat.beq (List.length r) 1) = true := by simp [eStr]

def eL_eI (l : List Int) : Row := [.sl (l.map eI)]

theorem eL_eI_inj (a b : List Int) (h : eL_eI a = eL_eI b) : a = b := by
  simp only [eL_eI] at h
  simp [strs_inj, ints_inj, bools_inj] at h
  exact h

theorem eL_eIs_inj {a b : List (List Int)} : a.map eL_eI = b.map eL_eI ↔ a = b := List.map_inj_right eL_eI_inj

theorem uneL_eIs (xs : List (List Int)) : unenc (List.map eL_eI) (xs.map eL_eI) = some xs := unenc_of (fun a b h => eL_eIs_inj.1 h) xs rfl

theorem appeL_eIs' (xs : List (List Int)) (l : List Int) : xs.map eL_eI ++ [[.sl (l.map eI)]] = (xs ++ [l]).map eL_eI := by simp [eL_eI]

theorem all_eL_eIs (xs : List (List Int)) : ((xs.map eL_eI).all fun r => Nat.beq (List.length r) 1) = true := by simp [eL_eI]

def eCap (x : Cap) : Row := [vI x.fr, vI x.to, .sl (x.lines.map eStr), vI x.row, vB x.bef, vB x.aft]

theorem eCap_inj (a b : Cap) (h : eCap a = eCap b) : a = b := by
  obtain ⟨a0, a1, a2, a3, a4, a5⟩ := a
  obtain ⟨b0, b1, b2, b3, b4, b5⟩ := b
  simp only [eCap] at h
  simp [strs_inj, ints_inj, bools_inj, eL_eIs_inj] at h
  simp_all

theorem eCaps_inj {a b : List Cap} : a.map eCap = b.map eCap ↔ a = b := List.map_inj_right eCap_inj

theorem eCap_iff {a b : Cap} : eCap a = eCap b ↔ a = b := ⟨eCap_inj a b, fun h => h ▸ rfl⟩

theorem unCaps (xs : List Cap) : unenc (List.map eCap) (xs.map eCap) = some xs := unenc_of (fun a b h => eCaps_inj.1 h) xs rfl

theorem etaCap (x : Cap) : Cap.mk x.fr x.to x.lines x.row x.bef x.aft = x := rfl

theorem appCaps' (xs : List Cap) (x : Cap) : xs.map eCap ++ [[vI x.fr, vI x.to, .sl (x.lines.map eStr), vI x.row, vB x.bef, vB x.aft]] = (xs ++ [x]).map eCap := by simp [eCap]

theorem all_Caps (xs : List Cap) : ((xs.map eCap).all fun r => Nat.beq (List.length r) 6) = true := by simp [eCap]

theorem appWCaps (xs : List Cap) (x_fr : Int) (x_to : Int) (x_lines : List ByteArray) (x_row : Int) (x_bef : Bool) (x_aft : Bool) : xs.map eCap ++ [[vI x_fr, vI x_to, .sl (x_lines.map eStr), vI x_row, vB x_bef, vB x_aft]] = (xs ++ [(Cap.mk x_fr x_to x_lines x_row x_bef x_aft)]).map eCap := by simp [eCap]

theorem setWCaps (xs : List Cap) (i : Nat) (x_fr : Int) (x_to : Int) (x_lines : List ByteArray) (x_row : Int) (x_bef : Bool) (x_aft : Bool) : (xs.map eCap).set i [vI x_fr, vI x_to, .sl (x_lines.map eStr), vI x_row, vB x_bef, vB x_aft] = (xs.set i (Cap.mk x_fr x_to x_lines x_row x_bef x_aft)).map eCap := by simp [eCap, List.map_set]

def eL_eCap (l : List Cap) : Row := [.sl (l.map eCap)]

theorem eL_eCap_inj (a b : List Cap) (h : eL_eCap a = eL_eCap b) : a = b := by
  simp only [eL_eCap] at h
  simp [strs_inj, ints_inj, bools_inj, eL_eIs_inj, eCaps_inj, eCap_iff] at h
  exact h

theorem eL_eCaps_inj {a b : List (List Cap)} : a.map eL_eCap = b.map eL_eCap ↔ a = b := List.map_inj_right eL_eCap_inj

theorem uneL_eCaps (xs : List (List Cap)) : unenc (List.map eL_eCap) (xs.map eL_eCap) = some xs := unenc_of (fun a b h => eL_eCaps_inj.1 h) xs rfl

theorem appeL_eCaps' (xs : List (List Cap)) (l : List Cap) : xs.map eL_eCap ++ [[.sl (l.map eCap)]] = (xs ++ [l]).map eL_eCap := by simp [eL_eCap]

theorem all_eL_eCaps (xs : List (List Cap)) : ((xs.map eL_eCap).all fun r => Nat.beq (List.length r) 1) = true := by simp [eL_eCap]

def eMch (x : Mch) : Row := [vI x.was, vI x.now]

theorem eMch_inj (a b : Mch) (h : eMch a = eMch b) : a = b := by
  obtain ⟨a0, a1⟩ := a
  obtain ⟨b0, b1⟩ := b
  simp only [eMch] at h
  simp [strs_inj, ints_inj, bools_inj, eL_eIs_inj, eCaps_inj, eCap_iff, eL_eCaps_inj] at h
  simp_all

theorem eMchs_inj {a b : List Mch} : a.map eMch = b.map eMch ↔ a = b := List.map_inj_right eMch_inj

theorem eMch_iff {a b : Mch} : eMch a = eMch b ↔ a = b := ⟨eMch_inj a b, fun h => h ▸ rfl⟩

theorem unMchs (xs : List Mch) : unenc (List.map eMch) (xs.map eMch) = some xs := unenc_of (fun a b h => eMchs_inj.1 h) xs rfl

theorem etaMch (x : Mch) : Mch.mk x.was x.now = x := rfl

theorem appMchs' (xs : List Mch) (x : Mch) : xs.map eMch ++ [[vI x.was, vI x.now]] = (xs ++ [x]).map eMch := by simp [eMch]

theorem all_Mchs (xs : List Mch) : ((xs.map eMch).all fun r => Nat.beq (List.length r) 2) = true := by simp [eMch]

theorem appWMchs (xs : List Mch) (x_was : Int) (x_now : Int) : xs.map eMch ++ [[vI x_was, vI x_now]] = (xs ++ [(Mch.mk x_was x_now)]).map eMch := by simp [eMch]

theorem setWMchs (xs : List Mch) (i : Nat) (x_was : Int) (x_now : Int) : (xs.map eMch).set i [vI x_was, vI x_now] = (xs.set i (Mch.mk x_was x_now)).map eMch := by simp [eMch, List.map_set]

def eqMch (a b : Mch) : Bool := ((a.was == b.was) && ((a.now == b.now) && true))

theorem eqMch_refl (a : Mch) : eqMch a a = true := by simp [eqMch]

def eWrd (x : Wrd) : Row := [vI x.time, vS x.text]

theorem eWrd_inj (a b : Wrd) (h : eWrd a = eWrd b) : a = b := by
  obtain ⟨a0, a1⟩ := a
  obtain ⟨b0, b1⟩ := b
  simp only [eWrd] at h
  simp [strs_inj, ints_inj, bools_inj, eL_eIs_inj, eCaps_inj, eCap_iff, eL_eCaps_inj, eMchs_inj, eMch_iff] at h
  simp_all

theorem eWrds_inj {a b : List Wrd} : a.map eWrd = b.map eWrd ↔ a = b := List.map_inj_right eWrd_inj

theorem eWrd_iff {a b : Wrd} : eWrd a = eWrd b ↔ a = b := ⟨eWrd_inj a b, fun h => h ▸ rfl⟩

theorem unWrds (xs : List Wrd) : unenc (List.map eWrd) (xs.map eWrd) = some xs := unenc_of (fun a b h => eWrds_inj.1 h) xs rfl

theorem etaWrd (x : Wrd) : Wrd.mk x.time x.text = x := rfl

theorem appWrds' (xs : List Wrd) (x : Wrd) : xs.map eWrd ++ [[vI x.time, vS x.text]] = (xs ++ [x]).map eWrd := by simp [eWrd]

theorem all_Wrds (xs : List Wrd) : ((xs.map eWrd).all fun r => Nat.beq (List.length r) 2) = true := by simp [eWrd]

theorem appWWrds (xs : List Wrd) (x_time : Int) (x_text : ByteArray) : xs.map eWrd ++ [[vI x_time, vS x_text]] = (xs ++ [(Wrd.mk x_time x_text)]).map eWrd := by simp [eWrd]

theorem setWWrds (xs : List Wrd) (i : Nat) (x_time : Int) (x_text : ByteArray) : (xs.map eWrd).set i [vI x_time, vS x_text] = (xs.set i (Wrd.mk x_time x_text)).map eWrd := by simp [eWrd, List.map_set]

def eqWrd (a b : Wrd) : Bool := ((a.time == b.time) && ((a.text.toList == b.text.toList) && true))

theorem eqWrd_refl (a : Wrd) : eqWrd a a = true := by simp [eqWrd]

def eFnd (x : Fnd) : Row := [vI x.cap, vI x.line, vI x.pos]

theorem eFnd_inj (a b : Fnd) (h : eFnd a = eFnd b) : a = b := by
  obtain ⟨a0, a1, a2⟩ := a
  obtain ⟨b0, b1, b2⟩ := b
  simp only [eFnd] at h
  simp [strs_inj, ints_inj, bools_inj, eL_eIs_inj, eCaps_inj, eCap_iff, eL_eCaps_inj, eMchs_inj, eMch_iff, eWrds_inj, eWrd_iff] at h
  simp_all

theorem eFnds_inj {a b : List Fnd} : a.map eFnd = b.map eFnd ↔ a = b := List.map_inj_right eFnd_inj

theorem eFnd_iff {a b : Fnd} : eFnd a = eFnd b ↔ a = b := ⟨eFnd_inj a b, fun h => h ▸ rfl⟩

theorem unFnds (xs : List Fnd) : unenc (List.map eFnd) (xs.map eFnd) = some xs := unenc_of (fun a b h => eFnds_inj.1 h) xs rfl

theorem etaFnd (x : Fnd) : Fnd.mk x.cap x.line x.pos = x := rfl

theorem appFnds' (xs : List Fnd) (x : Fnd) : xs.map eFnd ++ [[vI x.cap, vI x.line, vI x.pos]] = (xs ++ [x]).map eFnd := by simp [eFnd]

theorem all_Fnds (xs : List Fnd) : ((xs.map eFnd).all fun r => Nat.beq (List.length r) 3) = true := by simp [eFnd]

theorem appWFnds (xs : List Fnd) (x_cap : Int) (x_line : Int) (x_pos : Int) : xs.map eFnd ++ [[vI x_cap, vI x_line, vI x_pos]] = (xs ++ [(Fnd.mk x_cap x_line x_pos)]).map eFnd := by simp [eFnd]

theorem setWFnds (xs : List Fnd) (i : Nat) (x_cap : Int) (x_line : Int) (x_pos : Int) : (xs.map eFnd).set i [vI x_cap, vI x_line, vI x_pos] = (xs.set i (Fnd.mk x_cap x_line x_pos)).map eFnd := by simp [eFnd, List.map_set]

def eqFnd (a b : Fnd) : Bool := ((a.cap == b.cap) && ((a.line == b.line) && ((a.pos == b.pos) && true)))

theorem eqFnd_refl (a : Fnd) : eqFnd a a = true := by simp [eqFnd]

def eRatio (x : Ratio) : Row := [vI x.num, vI x.den]

theorem eRatio_inj (a b : Ratio) (h : eRatio a = eRatio b) : a = b := by
  obtain ⟨a0, a1⟩ := a
  obtain ⟨b0, b1⟩ := b
  simp only [eRatio] at h
  simp [strs_inj, ints_inj, bools_inj, eL_eIs_inj, eCaps_inj, eCap_iff, eL_eCaps_inj, eMchs_inj, eMch_iff, eWrds_inj, eWrd_iff, eFnds_inj, eFnd_iff] at h
  simp_all

theorem eRatios_inj {a b : List Ratio} : a.map eRatio = b.map eRatio ↔ a = b := List.map_inj_right eRatio_inj

theorem eRatio_iff {a b : Ratio} : eRatio a = eRatio b ↔ a = b := ⟨eRatio_inj a b, fun h => h ▸ rfl⟩

theorem unRatios (xs : List Ratio) : unenc (List.map eRatio) (xs.map eRatio) = some xs := unenc_of (fun a b h => eRatios_inj.1 h) xs rfl

theorem etaRatio (x : Ratio) : Ratio.mk x.num x.den = x := rfl

theorem appRatios' (xs : List Ratio) (x : Ratio) : xs.map eRatio ++ [[vI x.num, vI x.den]] = (xs ++ [x]).map eRatio := by simp [eRatio]

theorem all_Ratios (xs : List Ratio) : ((xs.map eRatio).all fun r => Nat.beq (List.length r) 2) = true := by simp [eRatio]

theorem appWRatios (xs : List Ratio) (x_num : Int) (x_den : Int) : xs.map eRatio ++ [[vI x_num, vI x_den]] = (xs ++ [(Ratio.mk x_num x_den)]).map eRatio := by simp [eRatio]

theorem setWRatios (xs : List Ratio) (i : Nat) (x_num : Int) (x_den : Int) : (xs.map eRatio).set i [vI x_num, vI x_den] = (xs.set i (Ratio.mk x_num x_den)).map eRatio := by simp [eRatio, List.map_set]

def eqRatio (a b : Ratio) : Bool := ((a.num == b.num) && ((a.den == b.den) && true))

theorem eqRatio_refl (a : Ratio) : eqRatio a a = true := by simp [eqRatio]

def eWay (x : Way) : Row := [vI x.lines, vI x.sum, vI x.next]

theorem eWay_inj (a b : Way) (h : eWay a = eWay b) : a = b := by
  obtain ⟨a0, a1, a2⟩ := a
  obtain ⟨b0, b1, b2⟩ := b
  simp only [eWay] at h
  simp [strs_inj, ints_inj, bools_inj, eL_eIs_inj, eCaps_inj, eCap_iff, eL_eCaps_inj, eMchs_inj, eMch_iff, eWrds_inj, eWrd_iff, eFnds_inj, eFnd_iff, eRatios_inj, eRatio_iff] at h
  simp_all

theorem eWays_inj {a b : List Way} : a.map eWay = b.map eWay ↔ a = b := List.map_inj_right eWay_inj

theorem eWay_iff {a b : Way} : eWay a = eWay b ↔ a = b := ⟨eWay_inj a b, fun h => h ▸ rfl⟩

theorem unWays (xs : List Way) : unenc (List.map eWay) (xs.map eWay) = some xs := unenc_of (fun a b h => eWays_inj.1 h) xs rfl

theorem etaWay (x : Way) : Way.mk x.lines x.sum x.next = x := rfl

theorem appWays' (xs : List Way) (x : Way) : xs.map eWay ++ [[vI x.lines, vI x.sum, vI x.next]] = (xs ++ [x]).map eWay := by simp [eWay]

theorem all_Ways (xs : List Way) : ((xs.map eWay).all fun r => Nat.beq (List.length r) 3) = true := by simp [eWay]

theorem appWWays (xs : List Way) (x_lines : Int) (x_sum : Int) (x_next : Int) : xs.map eWay ++ [[vI x_lines, vI x_sum, vI x_next]] = (xs ++ [(Way.mk x_lines x_sum x_next)]).map eWay := by simp [eWay]

theorem setWWays (xs : List Way) (i : Nat) (x_lines : Int) (x_sum : Int) (x_next : Int) : (xs.map eWay).set i [vI x_lines, vI x_sum, vI x_next] = (xs.set i (Way.mk x_lines x_sum x_next)).map eWay := by simp [eWay, List.map_set]

def eqWay (a b : Way) : Bool := ((a.lines == b.lines) && ((a.sum == b.sum) && ((a.next == b.next) && true)))

theorem eqWay_refl (a : Way) : eqWay a a = true := by simp [eqWay]

noncomputable def lks : List Lk := [⟨9, lkp eStr ⟨#[]⟩⟩, ⟨3, lkp eI 0⟩, ⟨23, lkp eI 0⟩, ⟨41, lkp eCap default⟩, ⟨89, lkp eWay default⟩, ⟨22, lkp eL_eCap []⟩]

theorem lks_ok : ∀ x ∈ lks, LkOK x := by
  simp only [lks, List.forall_mem_cons]
  exact ⟨lkp_ok, lkp_ok, lkp_ok, lkp_ok, lkp_ok, lkp_ok, by simp⟩





end M
end Go.Proofs.YthcfbeckhgngiaaGreatDoor
