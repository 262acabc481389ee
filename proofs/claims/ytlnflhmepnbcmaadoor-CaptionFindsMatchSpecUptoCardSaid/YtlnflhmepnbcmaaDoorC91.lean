/- What is proved here: what lower returns, of both (no statement of the seat). -/
import Derived.Test.YtlnflhmepnbcmaaDoorC4
import Derived.Laws.IdiomStrings
import Derived.Laws.Tables
import Derived.Below
import Derived.LoopTactic
namespace Go.Proofs.YtlnflhmepnbcmaaDoor
open Go Go.RowKit
set_option linter.unusedVariables false
set_option linter.unusedSimpArgs false
set_option maxHeartbeats 1000000
set_option maxRecDepth 100000

def F.lowB (x : UInt8) : UInt8 := if 65 ≤ x.toNat ∧ x.toNat ≤ 90 then x + 32 else x

def F.lowS (s : ByteArray) : ByteArray := ⟨(s.data.toList.map F.lowB).toArray⟩

theorem F.lowB_num {x : UInt8} (h1 : 65 ≤ x.toNat) (h2 : x.toNat ≤ 90) : (F.lowB x).toNat = x.toNat + 32 := by
  unfold F.lowB
  rw [if_pos ⟨h1, h2⟩, UInt8.toNat_add]
  show (x.toNat + 32) % 256 = _
  omega

/-- The bytes, of which those before k are in small letters. -/
structure LowAt (s : ByteArray) (B k : Nat) (wr : World) : Prop where
  row : ∃ (cur : Array Value) (e : TypeId) (n : Nat), wr.heap[B]? = some (.cells cur e (n, n + 1)) ∧ s.size ≤ n ∧ s.size ≤ cur.size ∧
    ∀ (j : Nat) (hj : j < s.size), cur[j]? = some (.int .u8 (if j < k then (F.lowB s.data[j]).toNat else s.data[j].toNat))

theorem LowAt.cell {s : ByteArray} {B k : Nat} {wr : World} (h : LowAt s B k wr) {j : Nat} (hj : j < s.size) : wr.cell? ⟨B, j, none⟩ = some (.int .u8 (if j < k then (F.lowB s.data[j]).toNat else s.data[j].toNat)) := by
  obtain ⟨cur, e, n, h1, h2, h3, h4⟩ := h.row
  simp only [World.cell?, h1]
  exact h4 j hj

theorem LowAt.free {s : ByteArray} {B k : Nat} {wr : World} (h : LowAt s B k wr) {j : Nat} (hj : j < s.size) : wr.frozen? ⟨B, j, none⟩ = false := by
  obtain ⟨cur, e, n, h1, h2, h3, h4⟩ := h.row
  simp [World.frozen?, h1]
  omega

theorem LowAt.set {s : ByteArray} {B k : Nat} {wr : World} (h : LowAt s B k wr) (hk : k < s.size) {v : Int} (hv : v = (F.lowB s.data[k]).toNat) : LowAt s B (k + 1) (wr.setCell ⟨B, k, none⟩ (.int .u8 v)) := by
  obtain ⟨cur, e, n, h1, h2, h3, h4⟩ := h.row
  rw [setCell_eq_setRow wr B k cur e (n, n + 1) _ h1]
  refine ⟨cur.setIfInBounds k (.int .u8 v), e, n, setRow_heap wr B cur _ e (n, n + 1) h1, h2, by simpa using h3, fun j hj => ?_⟩
  rw [Array.getElem?_setIfInBounds]
  by_cases hjk : k = j
  · subst hjk
    rw [if_pos rfl, if_pos (by omega), if_pos (by omega), hv]
  · rw [if_neg hjk, h4 j hj]
    by_cases h5 : j < k
    · rw [if_pos h5, if_pos (by omega)]
    · rw [if_neg h5, if_neg (by omega)]

theorem LowAt.same {s : ByteArray} {B k : Nat} {wr : World} (h : LowAt s B k wr) (hk : k < s.size) (hv : F.lowB s.data[k] = s.data[k]) : LowAt s B (k + 1) wr := by
  obtain ⟨cur, e, n, h1, h2, h3, h4⟩ := h.row
  refine ⟨cur, e, n, h1, h2, h3, fun j hj => ?_⟩
  rw [h4 j hj]
  by_cases h5 : j < k
  · rw [if_pos h5, if_pos (by omega)]
  · rw [if_neg h5]
    by_cases h6 : j < k + 1
    · have : j = k := by omega
      subst this
      rw [if_pos h6, hv]
    · rw [if_neg h6]

theorem LowAt.start (s : ByteArray) (w : World) : ∃ G W1, (convert 9 83 (.string s)).run Tryd.prog w = .ok (.slice (some ⟨w.heap.size, 0, none⟩) s.size G) W1 ∧ LowAt s w.heap.size 0 W1 ∧ Below w.heap.size w W1 ∧ w.heap.size < W1.heap.size := by
  refine ⟨_, _, run_bytes_of_string w 9 83 5 s Tryd.underlying9 Tryd.underlying83 Tryd.underlying5, ⟨bytesRow s (grownCap w s.size 0 5), 5, (bytesRow s (grownCap w s.size 0 5)).size, ?_, ?_, ?_, fun j hj => ?_⟩, ?_, ?_⟩
  · show (w.heap.push _)[w.heap.size]? = _
    simp only [Array.getElem?_push_size]
  · unfold bytesRow
    simp
  · unfold bytesRow
    simp
  · rw [if_neg (by omega)]
    exact bytesRow_at s _ j hj
  · exact ((Below.refl _ _).drew).alloc (Nat.le_refl _) _
  · show w.heap.size < (w.heap.push _).size
    simp

theorem low_end {s : ByteArray} {wr : World} {B G : Nat} (h : LowAt s B s.size wr) : (convert 83 9 (.slice (some ⟨B, 0, none⟩) s.size G)).run Tryd.prog wr = .ok (.string (F.lowS s)) wr := by
  have hl : (s.data.toList.map F.lowB).length = s.size := by simp
  have := run_convert_bytes_back wr 83 9 5 ⟨B, 0, none⟩ G (s.data.toList.map F.lowB) Tryd.underlying83 Tryd.underlying5 Tryd.underlying9 (fun j hj => by
    rw [hl] at hj
    have := h.cell hj
    rw [if_pos hj] at this
    rw [Addr.add_lit, Nat.zero_add, this]
    simp)
  rw [hl] at this
  exact this

theorem F.lowB_not {x : UInt8} (h : ¬ (65 ≤ x.toNat ∧ x.toNat ≤ 90)) : F.lowB x = x := by unfold F.lowB; rw [if_neg h]

theorem lower_any (s : ByteArray) (w : World) (hs : s.size ≤ 9223372036854775807) :
    Calls Tryd.prog 39 #[.string s] w fun e w' => e = .returned (.string (F.lowS s)) ∧ Below w.heap.size w w' := by
  obtain ⟨G, W1, hconv, h1, h2, h3⟩ := LowAt.start s w
  go_enter Tryd.func39, Tryd.ntmps39
  go_wp2_with (simp only [hconv])
  go_loopw [10] (fun i wr => ∃ k : Nat, k ≤ s.size ∧ i = .int .i64 k ∧ LowAt s w.heap.size k wr ∧ Below w.heap.size w wr) (fun i wr => s.size - (intOf i).toNat)
  case atStart => exact ⟨0, Nat.zero_le _, rfl, h1, h2⟩
  case round =>
    obtain ⟨k, hk, rfl, hL, hB⟩ := hrel
    by_cases hlt : k < s.size
    · have hc := hL.cell hlt
      rw [if_neg (Nat.lt_irrefl k)] at hc
      have hf := hL.free hlt
      go_wp2
      all_goals first
        | exact ⟨⟨k + 1, hlt, by go_num, hL.set hlt (by rw [F.lowB_num (by omega) (by omega)]; omega), hB.setCell (Nat.le_refl _) _⟩, by simp [intOf]; omega⟩
        | exact ⟨⟨k + 1, hlt, by go_num, hL.same hlt (F.lowB_not (by omega)), hB⟩, by simp [intOf]; omega⟩
    · have hks : k = s.size := by omega
      subst hks
      have hend := fun G => low_end (G := G) hL
      go_wp2_with (simp only [hend])
      go_ret
      exact ⟨rfl, hB⟩

theorem rlower_any (s : ByteArray) (w : World) (hs : s.size ≤ 9223372036854775807) :
    Calls Tryd.prog 43 #[.string s] w fun e w' => e = .returned (.string (F.lowS s)) ∧ Below w.heap.size w w' := by
  obtain ⟨G, W1, hconv, h1, h2, h3⟩ := LowAt.start s w
  go_enter Tryd.func43, Tryd.ntmps43
  go_wp2_with (simp only [hconv])
  go_loopw [10] (fun i wr => ∃ k : Nat, k ≤ s.size ∧ i = .int .i64 k ∧ LowAt s w.heap.size k wr ∧ Below w.heap.size w wr) (fun i wr => s.size - (intOf i).toNat)
  case atStart => exact ⟨0, Nat.zero_le _, rfl, h1, h2⟩
  case round =>
    obtain ⟨k, hk, rfl, hL, hB⟩ := hrel
    by_cases hlt : k < s.size
    · have hc := hL.cell hlt
      rw [if_neg (Nat.lt_irrefl k)] at hc
      have hf := hL.free hlt
      go_wp2
      all_goals first
        | exact ⟨⟨k + 1, hlt, by go_num, hL.set hlt (by rw [F.lowB_num (by omega) (by omega)]; omega), hB.setCell (Nat.le_refl _) _⟩, by simp [intOf]; omega⟩
        | exact ⟨⟨k + 1, hlt, by go_num, hL.same hlt (F.lowB_not (by omega)), hB⟩, by simp [intOf]; omega⟩
    · have hks : k = s.size := by omega
      subst hks
      have hend := fun G => low_end (G := G) hL
      go_wp2_with (simp only [hend])
      go_ret
      exact ⟨rfl, hB⟩

theorem F.lowS_size (s : ByteArray) : (F.lowS s).size = s.size := by
  show (s.data.toList.map F.lowB).toArray.size = s.data.size
  simp

namespace M

def encLow1 (s : ByteArray) : List AV := [vS s]

def encLow (a : ByteArray) : List AV := encLow1 a

theorem encLow_inj (a a' : ByteArray) (h : encLow a = encLow a') : a = a' := by
  simp only [encLow, encLow1] at h
  try simp [strs_inj, ints_inj, bools_inj, eCaps_inj, eCap_iff, eL_eCaps_inj, eMchs_inj, eMch_iff, eWrds_inj, eWrd_iff, eFnds_inj, eFnd_iff, eRatios_inj, eRatio_iff, eWays_inj, eWay_iff] at h
  grind

theorem unLow (s : ByteArray) : unenc encLow ([(vS s)]) = some (s) := unenc_of encLow_inj (s) rfl

def resLow1 (s : ByteArray) : AV × Heap := (vS (F.lowS s), [])

def preLow1 (s : ByteArray) : Bool := true

noncomputable def oLow : Orc := orc 39 true encLow (fun a => preLow1 a) fun a => resLow1 a

theorem okLow : OrcOK Tryd.prog noG oLow := by
  refine orc_ok ⟨Tryd.f39, by kernel_rfl, by kernel_rfl, by kernel_rfl⟩ (fun x _ hk => ?_) (fun _ _ => ⟨rfl, rfl⟩)
  have hs : okAtom (.string x) := okA_v (hk _ (List.mem_singleton.2 rfl))
  exact SpecP.below1 (fun w S => rv_mk (show (F.lowS x).size ≤ 9223372036854775807 by rw [F.lowS_size]; exact hs)) (fun h w S _ => lower_any x w h)

def encRLow1 (s : ByteArray) : List AV := [vS s]

def encRLow (a : ByteArray) : List AV := encRLow1 a

theorem encRLow_inj (a a' : ByteArray) (h : encRLow a = encRLow a') : a = a' := by
  simp only [encRLow, encRLow1] at h
  try simp [strs_inj, ints_inj, bools_inj, eCaps_inj, eCap_iff, eL_eCaps_inj, eMchs_inj, eMch_iff, eWrds_inj, eWrd_iff, eFnds_inj, eFnd_iff, eRatios_inj, eRatio_iff, eWays_inj, eWay_iff] at h
  grind

theorem unRLow (s : ByteArray) : unenc encRLow ([(vS s)]) = some (s) := unenc_of encRLow_inj (s) rfl

def resRLow1 (s : ByteArray) : AV × Heap := (vS (F.lowS s), [])

def preRLow1 (s : ByteArray) : Bool := true

noncomputable def oRLow : Orc := orc 43 true encRLow (fun a => preRLow1 a) fun a => resRLow1 a

theorem okRLow : OrcOK Tryd.prog noG oRLow := by
  refine orc_ok ⟨Tryd.f43, by kernel_rfl, by kernel_rfl, by kernel_rfl⟩ (fun x _ hk => ?_) (fun _ _ => ⟨rfl, rfl⟩)
  have hs : okAtom (.string x) := okA_v (hk _ (List.mem_singleton.2 rfl))
  exact SpecP.below1 (fun w S => rv_mk (show (F.lowS x).size ≤ 9223372036854775807 by rw [F.lowS_size]; exact hs)) (fun h w S _ => rlower_any x w h)

end M
end Go.Proofs.YtlnflhmepnbcmaaDoor
