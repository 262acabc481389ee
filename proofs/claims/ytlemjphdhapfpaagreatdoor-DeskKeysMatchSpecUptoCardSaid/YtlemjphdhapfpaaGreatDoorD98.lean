/- What is proved here: strconv.FormatUint at base 10 writes the decimal numeral (no statement of the seat). -/
import Derived.Test.YtlemjphdhapfpaaGreatDoorD66
import Derived.Handy
import Derived.BigGuard
import Derived.Lib.ItoaMem
import Derived.WalkKit
import Derived.Lib.Walk
import Derived.BigCall
namespace Go.Proofs.YtlemjphdhapfpaaGreatDoor
open Go Go.RowKit Go.Lib Go.Sort
set_option linter.unusedVariables false
set_option linter.unusedSimpArgs false
set_option maxHeartbeats 4000000
set_option maxRecDepth 100000

theorem holds_zero0 (w : World) (T : TypeId) (nd : Nat) (hs : nd ≤ 24) : Holds (fun (b : UInt8) => Value.int .u8 (b.toNat : Int)) (w.alloc (.cells Lib.zeros24 T)) w.heap.size 0 (Array.replicate nd (0 : UInt8)) := fun j hj => by
  have hj' : j < nd := by simpa using hj
  refine ⟨?_, World.frozen?_alloc_new _ _ _ _⟩
  rw [World.cell?_alloc_new, Lib.zeros24_at _ (by omega), getElem!_pos _ j hj]
  simp

theorem fin_pos0 (w : World) (o : Obj) (dk : Array UInt8) (k : Nat) : ∃ os, (putRow (fun (b : UInt8) => Value.int .u8 (b.toNat : Int)) (w.alloc o) w.heap.size 0 dk).drewN k = grow (w.drewN k) os := by
  rw [Go.Sort.alloc_eq_grow]
  obtain ⟨os', _, e⟩ := Go.Sort.putRow_grow_new (fun (b : UInt8) => Value.int .u8 (b.toNat : Int)) w #[o] w.heap.size 0 dk (Nat.le_refl _)
  exact ⟨os', by rw [e]; rfl⟩

theorem fmtU_in (u : Nat) (hu64 : u < 18446744073709551616) (w : World) (htab : Lib.TabIs Tryz.prog w "internal/strconv.uint64pow10" .u64 Lib.pow10Tab) :
    Calls Tryz.prog 106 #[.int .u64 u, .int .i64 10] w fun e w' => e = .returned (.string ⟨(Lib.decDigits u).toArray⟩) ∧ ∃ k os, w' = grow (w.drewN k) os := by
  by_cases hs : u < 100
  · have hs2 : (u : Int) < 100 := by omega
    go_enter Tryz.func106, Tryz.ntmps106
    go_wp2_with (go_at_call 90; refine (Tryz.internal_strconv_small u hs _).mono ?_; rintro e w' ⟨rfl, rfl⟩)
    go_ret
    exact ⟨rfl, 0, #[], by simp [World.drewN_zero]⟩
  · have hs2 : ¬ (u : Int) < 100 := by omega
    have hu1 : 1 ≤ u := by omega
    have hnd20 : Lib.nDigits u ≤ 20 := by have := Lib.numDigits_eq u hu1 hu64; split at this <;> omega
    have hb3 : Lib.nDigits u ≤ 24 := by omega
    have hal : Tryz.prog.arrayLen 122 = 24 := by kernel_rfl
    have hsl1 : ∀ W, (Instr.sliceAt 122 (.pointer (some ⟨w.heap.size, 0, none⟩)) none (some (.int .i64 (Lib.nDigits u : Int))) none).run Tryz.prog W = .ok (.slice (some ⟨w.heap.size, 0, none⟩) (Lib.nDigits u) 24) W := fun W => by
      rw [run_sliceAt_array_h W 122 ⟨w.heap.size, 0, none⟩ (by kernel_rfl) .i64 (Lib.nDigits u : Int) (by omega) (by rw [hal]; omega)]
      go_simp
    have hH0 := holds_zero0 w 122 (Lib.nDigits u) hb3
    have hfmt := Tryz.internal_strconv_formatBase10 w.heap.size 0 24 u (Array.replicate (Lib.nDigits u) 0) (w.alloc (.cells Lib.zeros24 122)) hH0 (by rw [Array.size_replicate]; exact Lib.lt_pow_nDigits u) hu64 (by rw [Array.size_replicate]; omega)
    rw [Array.size_replicate] at hfmt
    have HH0 := Lib.hid hH0
    clear hH0 hal
    go_enter Tryz.func106, Tryz.ntmps106
    go_wp2_with (first
      | (go_at_call 91; refine (Tryz.internal_strconv_numDigits u hu1 hu64 _ (Lib.tabIs_alloc htab _)).mono ?_; rintro e w' ⟨rfl, rfl⟩))
    go_at_call 92
    refine hfmt.mono ?_
    rintro e w' ⟨rfl, k, v', dk, rfl, hF⟩
    have hcv : (convert 26 9 (.slice (some ⟨w.heap.size, 0, none⟩) (Lib.nDigits u) 24)).run Tryz.prog ((putRow (fun (b : UInt8) => Value.int .u8 (b.toNat : Int)) (w.alloc (.cells Lib.zeros24 122)) w.heap.size 0 dk).drewN k) = .ok (.string ⟨(Lib.decDigits u).toArray⟩) ((putRow (fun (b : UInt8) => Value.int .u8 (b.toNat : Int)) (w.alloc (.cells Lib.zeros24 122)) w.heap.size 0 dk).drewN k) := by
      have h := run_convert_bytes_back (P := Tryz.prog) ((putRow (fun (b : UInt8) => Value.int .u8 (b.toNat : Int)) (w.alloc (.cells Lib.zeros24 122)) w.heap.size 0 dk).drewN k) 26 9 5 ⟨w.heap.size, 0, none⟩ 24 (Lib.decDigits u) (by kernel_rfl) (by kernel_rfl) (by kernel_rfl) (fun j hj => by
        rw [Lib.row_is_numeral hF j hj, Lib.add_plain, World.cell?_drewN]
        exact cell?_putRow (fun (b : UInt8) => Value.int .u8 (b.toNat : Int)) _ w.heap.size 0 _ dk HH0.out (by rw [hF.size, Array.size_replicate]) j (by rw [hF.size]; rw [Lib.decDigits_length] at hj; exact hj))
      rw [Lib.decDigits_length] at h
      exact h
    go_wp2
    go_ret
    obtain ⟨os, eo⟩ := fin_pos0 w (.cells Lib.zeros24 122) dk k
    exact ⟨rfl, k, os, eo⟩

theorem fmtU (u : Nat) (hu64 : u < 18446744073709551616) (w : World) (htab : Lib.TabIs Tryz.prog w "internal/strconv.uint64pow10" .u64 Lib.pow10Tab) :
    Calls Tryz.prog 80 #[.int .u64 u, .int .i64 10] w fun e w' => e = .returned (.string ⟨(Lib.decDigits u).toArray⟩) ∧ ∃ k os, w' = grow (w.drewN k) os := by
  have hI := fmtU_in u hu64 w htab
  go_enter Tryz.func80, Tryz.ntmps80
  go_wp2_with (go_at_call 106; refine hI.mono ?_; rintro e w' ⟨rfl, k, os, rfl⟩)
  go_ret
  exact ⟨rfl, k, os, rfl⟩

namespace M

def encFmt1 (n : Nat) : List AV := [.v (.int .u64 n), vI 10]

def encFmt (a : Nat) : List AV := encFmt1 a

theorem encFmt_inj (a a' : Nat) (h : encFmt a = encFmt a') : a = a' := by
  simp only [encFmt, encFmt1] at h
  try simp [strs_inj, ints_inj, bools_inj, u8s_inj, eEnts_inj, eEnt_iff, eLsts_inj, eLst_iff, eSegs_inj, eSeg_iff, eRots_inj, eRot_iff, eBeats_inj, eBeat_iff, eSpans_inj, eSpan_iff, eHoles_inj, eHole_iff] at h
  grind

theorem unFmt (n : Nat) : unenc encFmt ([AV.v (Value.int IntKind.u64 (↑n : Int)), (vI (10 : Int))]) = some (n) := unenc_of encFmt_inj (n) rfl

def resFmt1 (n : Nat) : AV × Heap := (vS (F.itoa n), [])

def preFmt1 (n : Nat) : Bool := decide (n ≤ 18446744073709551615)

noncomputable def oFmt : Orc := orc 80 true encFmt (fun a => preFmt1 a) fun a => resFmt1 a

theorem okFmt : OrcOK Tryz.prog noG oFmt := by
  refine orc_ok ⟨Tryz.f80, by kernel_rfl, by kernel_rfl, by kernel_rfl⟩ (fun n hp _ => ?_) (fun _ _ => ⟨rfl, rfl⟩)
  have hp : n ≤ 18446744073709551615 := of_decide_eq_true hp
  have e : F.itoa (n : Int) = ⟨(Lib.decDigits n).toArray⟩ := by unfold F.itoa; rw [Lib.itoa_nonneg]
  have hl : Lib.nDigits n ≤ 20 := by
    by_cases h : n < 10
    · rw [Lib.nDigits_small h]; omega
    · have := Lib.numDigits_eq n (by omega) (by omega); split at this <;> omega
  have hz : (F.itoa (n : Int)).size ≤ 9223372036854775807 := by
    rw [e]
    show (Lib.decDigits n).toArray.size ≤ _
    rw [List.size_toArray, Lib.decDigits_length]; omega
  refine SpecP.below2 (fun w S => rv_mk (by show (F.itoa (n : Int)).size ≤ 9223372036854775807; exact hz)) fun _ _ w S hG => ?_
  have hg := hG 2 ⟨[], fun cs => cs = (Lib.pow10Tab.map fun z => Value.int .u64 z).toArray⟩ rfl
  obtain ⟨cs, ty, o, h1, h2⟩ := hg.cells
  have htab : Lib.TabIs Tryz.prog w "internal/strconv.uint64pow10" .u64 Lib.pow10Tab := by
    have hn : Tryz.prog.globalNamed "internal/strconv.uint64pow10" = some 2 := by kernel_rfl
    simp only [Lib.TabIs, World.var?, hn, Option.bind_some, h1]
    rw [h2]
  refine (fmtU n (by omega) w htab).mono ?_
  rintro e' w' ⟨he, k, os, rfl⟩
  rw [← e] at he
  exact ⟨he, below_grow w k os⟩

end M

end Go.Proofs.YtlemjphdhapfpaaGreatDoor
