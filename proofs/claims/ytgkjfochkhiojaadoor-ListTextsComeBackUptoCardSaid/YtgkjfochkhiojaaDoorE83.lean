/- What is proved here: how the program takes the lines of an entry (no statement of the seat). -/
import Derived.Test.YtgkjfochkhiojaaDoorE82
namespace Go.Proofs.YtgkjfochkhiojaaDoor
open Go Go.RowKit
set_option linter.unusedVariables false
set_option linter.unusedSimpArgs false

theorem F.elR_6 (line : ByteArray) (rank : Int) (key : ByteArray) : F.elR line rank key ≤ 6 := by
  have h := F.elK_le line rank
  unfold F.elR
  by_cases h7 : F.elK line rank = 7
  · rw [h7]
    have : F.elO line key 7 = false := rfl
    rw [this]
    show (-1 : Int) ≤ 6
    omega
  · cases (!F.elO line key (F.elK line rank) || decide ((F.elK line rank : Int) < rank) || (((F.elK line rank : Int) == rank) && !Nat.beq (F.elK line rank) 0))
    · rw [cond_false]; omega
    · rw [cond_true]; omega

theorem F.eta_ent (e : Ent) : (⟨e.uri, e.milli, e.brk, e.date, e.key, e.gap, e.extra⟩ : Ent) = e := rfl

namespace M


def stEn (s : ByteArray) (n : Int) (line : ByteArray) (key : ByteArray) : St := ⟨[(9, vI 0), (8, .ptr 8 0 0), (6, .ptr 6 0 0), (2, vS key), (1, vS line), (0, .ptr 900 0 0)], [(900, ⟨true, 0, 0, [[vS s, vI n]]⟩), (8, ⟨true, 0, 0, [[vS ⟨⟨[]⟩⟩, vI 0, vB false, vI (-1), vS key, vB false, .e0]]⟩), (6, ⟨true, 0, 0, [[vS ⟨⟨[]⟩⟩, vI 0, vB false, vI 0, vS ⟨⟨[]⟩⟩, vB false, .e0]]⟩)]⟩

def stEn1 (a : ByteArray × Int × ByteArray × ByteArray) : St := stEn a.1 a.2.1 a.2.2.1 a.2.2.2

theorem stEn_inj (a a' : ByteArray × Int × ByteArray × ByteArray) (h : stEn1 a = stEn1 a') : a = a' := by
  simp only [stEn1, stEn] at h
  try simp [strs_inj, ints_inj, ents_inj, eEnt_iff, eLst_iff, eSnds_inj, eStrms_inj] at h
  grind

theorem unstEn (s : ByteArray) (n : Int) (line : ByteArray) (key : ByteArray) : unenc stEn1 (St.mk [(9, (vI (0 : Int))), (8, .ptr 8 0 0), (6, .ptr 6 0 0), (2, (vS key)), (1, (vS line)), (0, .ptr 900 0 0)] [(900, Blk.mk true 0 0 [[(vS s), (vI n)]]), (8, Blk.mk true
  0 0 [[(vS (ByteArray.mk (Array.mk []))), (vI (0 : Int)), (vB false), (vI (-1 : Int)), (vS key), (vB false), AV.e0]]), (6, Blk.mk true 0 0 [[(vS (ByteArray.mk (Array.mk
  []))), (vI (0 : Int)), (vB false), (vI (0 : Int)), (vS (ByteArray.mk (Array.mk []))), (vB false), AV.e0]])]) = some (s, n, line, key) := unenc_of stEn_inj (s, n, line, key) rfl

def outEn (s : ByteArray) (n : Int) (line : ByteArray) (key : ByteArray) : T (Ex × St) := .ret (.ret, ⟨[(7, vB (F.enL s n (F.noE key) line key 0).1), (6, .ptr 6 0 0)], [(900, ⟨true, 0, 0, [[vS (F.enL s n (F.noE key) line key 0).2.1, vI (F.enL s n (F.noE key) line key 0).2.2.1]]⟩), (890, ⟨false, 9, 1, (F.enL s n (F.noE key) line key 0).2.2.2.extra.map eStr⟩), (6, ⟨true, 0, 0, [[vS (F.enL s n (F.noE key) line key 0).2.2.2.uri, vI (F.enL s n (F.noE key) line key 0).2.2.2.milli, vB (F.enL s n (F.noE key) line key 0).2.2.2.brk, vI (F.enL s n (F.noE key) line key 0).2.2.2.date, vS (F.enL s n (F.noE key) line key 0).2.2.2.key, vB (F.enL s n (F.noE key) line key 0).2.2.2.gap, .own 890]]⟩)]⟩)

noncomputable def prlEn (s : ByteArray) (n : Int) (line : ByteArray) (key : ByteArray) : Bool := decide (0 ≤ n) && decide (n + s.size ≤ 900000) && decide (s.size ≤ 500000) && decide (line.size ≤ 500000)

noncomputable def lpEn : Nat × (St → T (Ex × St)) := (3, lpo [9, 8, 6, 2, 1, 0] [900, 8, 6] stEn1 (fun a => prlEn a.1 a.2.1 a.2.2.1 a.2.2.2) fun a => outEn a.1 a.2.1 a.2.2.1 a.2.2.2)

noncomputable def enEn : Env := envH ty noG lks [] [oTk, oEl] [890] [lpEn]

theorem enEn_ok : EnvOK Tryd.prog enEn := by
  refine envH_ok lks_ok ty_ok ?_ ?_
  · simp
  · simp only [List.forall_mem_cons]
    exact ⟨okTk, okEl, by simp⟩

def stEo (s : ByteArray) (n : Int) (u : ByteArray) (m : Int) (b : Bool) (d : Int) (ky : ByteArray) (g : Bool) (x : List ByteArray) (line : ByteArray) (key : ByteArray) (rank : Int) : St := ⟨[(9, vI rank), (8, .ptr 8 0 0), (6, .ptr 6 0 0), (2, vS key), (1, vS line), (0, .ptr 900 0 0)], [(900, ⟨true, 0, 0, [[vS s, vI n]]⟩), (890, ⟨false, 9, 1, x.map eStr⟩), (8, ⟨true, 0, 0, [[vS u, vI m, vB b, vI d, vS ky, vB g, .own 890]]⟩), (6, ⟨true, 0, 0, [[vS ⟨⟨[]⟩⟩, vI 0, vB false, vI 0, vS ⟨⟨[]⟩⟩, vB false, .e0]]⟩)]⟩

theorem evEo (s : ByteArray) (n : Int) (u : ByteArray) (m : Int) (b : Bool) (d : Int) (ky : ByteArray) (g : Bool) (x : List ByteArray) (line : ByteArray) (key : ByteArray) (rank : Int) : ((exec enEn (loopN Tryd.f28 0) (stEo s n u m b d ky g x line key rank)).bind (lessX ([9, 8, 6, 2, 1, 0], [900, 890, 8, 6]) ([], []) ([7, 6], [900, 890, 6]))).val =
  Option.bind (unenc encEl ([.ptr 900 0 0, (vS line), (vI rank), (vS key)], [(901, Blk.mk false 9 1 (List.map eStr x)), (900, Blk.mk true 0 0 [[(vS u), (vI m), (vB b), (vI
  d), (vS ky), (vB g), .own 901]])])) fun (z : ByteArray × Int × Bool × Int × ByteArray × Bool × List ByteArray × ByteArray × Int × ByteArray) => bif decide (ByteArray.size
  z.snd.snd.snd.snd.snd.snd.snd.fst ≤ (500000 : Nat)) && decide (List.length z.snd.snd.snd.snd.snd.snd.fst ≤ (600000 : Nat)) && decide ((0 : Int) ≤
  z.snd.snd.snd.snd.snd.snd.snd.snd.fst) && decide (z.snd.snd.snd.snd.snd.snd.snd.snd.fst ≤ (5 : Int)) then bif decide (F.elR z.snd.snd.snd.snd.snd.snd.snd.fst
  z.snd.snd.snd.snd.snd.snd.snd.snd.fst z.snd.snd.snd.snd.snd.snd.snd.snd.snd < (0 : Int)) then some (Ex.ret, St.mk [(7, (vB false)), (6, .ptr 6 0 0)] [(900, Blk.mk true 0 0
  [[(vS s), (vI n)]]), (890, Blk.mk false 9 1 (List.map eStr (bif Nat.beq (F.elK z.snd.snd.snd.snd.snd.snd.snd.fst z.snd.snd.snd.snd.snd.snd.snd.snd.fst) (0 : Nat) then
  z.snd.snd.snd.snd.snd.snd.fst ++ [z.snd.snd.snd.snd.snd.snd.snd.fst] else z.snd.snd.snd.snd.snd.snd.fst))), (6, Blk.mk true 0 0 [[(vS (bif Nat.beq (F.elK
  z.snd.snd.snd.snd.snd.snd.snd.fst z.snd.snd.snd.snd.snd.snd.snd.snd.fst) (6 : Nat) then z.snd.snd.snd.snd.snd.snd.snd.fst else z.fst)), (vI (bif Nat.beq (F.elK
  z.snd.snd.snd.snd.snd.snd.snd.fst z.snd.snd.snd.snd.snd.snd.snd.snd.fst) (5 : Nat) then F.milV (F.cutT z.snd.snd.snd.snd.snd.snd.snd.fst F.sp) else z.snd.fst)), (vB (bif
  Nat.beq (F.elK z.snd.snd.snd.snd.snd.snd.snd.fst z.snd.snd.snd.snd.snd.snd.snd.snd.fst) (1 : Nat) then true else z.snd.snd.fst)), (vI (bif Nat.beq (F.elK
  z.snd.snd.snd.snd.snd.snd.snd.fst z.snd.snd.snd.snd.snd.snd.snd.snd.fst) (2 : Nat) then F.dtV (F.cutT z.snd.snd.snd.snd.snd.snd.snd.fst F.sp) else z.snd.snd.snd.fst)), (vS
  (bif Nat.beq (F.elK z.snd.snd.snd.snd.snd.snd.snd.fst z.snd.snd.snd.snd.snd.snd.snd.snd.fst) (3 : Nat) then F.undash (F.cutT z.snd.snd.snd.snd.snd.snd.snd.fst F.sp) else
  z.snd.snd.snd.snd.fst)), (vB (bif Nat.beq (F.elK z.snd.snd.snd.snd.snd.snd.snd.fst z.snd.snd.snd.snd.snd.snd.snd.snd.fst) (4 : Nat) then true else
  z.snd.snd.snd.snd.snd.fst)), .own 890]])]) else bif F.elR z.snd.snd.snd.snd.snd.snd.snd.fst z.snd.snd.snd.snd.snd.snd.snd.snd.fst z.snd.snd.snd.snd.snd.snd.snd.snd.snd ==
  (6 : Int) then some (Ex.ret, St.mk [(7, (vB true)), (6, .ptr 6 0 0)] [(900, Blk.mk true 0 0 [[(vS s), (vI n)]]), (890, Blk.mk false 9 1 (List.map eStr (bif Nat.beq (F.elK
  z.snd.snd.snd.snd.snd.snd.snd.fst z.snd.snd.snd.snd.snd.snd.snd.snd.fst) (0 : Nat) then z.snd.snd.snd.snd.snd.snd.fst ++ [z.snd.snd.snd.snd.snd.snd.snd.fst] else
  z.snd.snd.snd.snd.snd.snd.fst))), (6, Blk.mk true 0 0 [[(vS (bif Nat.beq (F.elK z.snd.snd.snd.snd.snd.snd.snd.fst z.snd.snd.snd.snd.snd.snd.snd.snd.fst) (6 : Nat) then
  z.snd.snd.snd.snd.snd.snd.snd.fst else z.fst)), (vI (bif Nat.beq (F.elK z.snd.snd.snd.snd.snd.snd.snd.fst z.snd.snd.snd.snd.snd.snd.snd.snd.fst) (5 : Nat) then F.milV
  (F.cutT z.snd.snd.snd.snd.snd.snd.snd.fst F.sp) else z.snd.fst)), (vB (bif Nat.beq (F.elK z.snd.snd.snd.snd.snd.snd.snd.fst z.snd.snd.snd.snd.snd.snd.snd.snd.fst) (1 :
  Nat) then true else z.snd.snd.fst)), (vI (bif Nat.beq (F.elK z.snd.snd.snd.snd.snd.snd.snd.fst z.snd.snd.snd.snd.snd.snd.snd.snd.fst) (2 : Nat) then F.dtV (F.cutT
  z.snd.snd.snd.snd.snd.snd.snd.fst F.sp) else z.snd.snd.snd.fst)), (vS (bif Nat.beq (F.elK z.snd.snd.snd.snd.snd.snd.snd.fst z.snd.snd.snd.snd.snd.snd.snd.snd.fst) (3 :
  Nat) then F.undash (F.cutT z.snd.snd.snd.snd.snd.snd.snd.fst F.sp) else z.snd.snd.snd.snd.fst)), (vB (bif Nat.beq (F.elK z.snd.snd.snd.snd.snd.snd.snd.fst
  z.snd.snd.snd.snd.snd.snd.snd.snd.fst) (4 : Nat) then true else z.snd.snd.snd.snd.snd.fst)), .own 890]])]) else Option.bind (unenc encTk ([.ptr 900 0 0], [(900, Blk.mk
  true 0 0 [[(vS s), (vI n)]])])) fun (z_1 : ByteArray × Int) => bif decide (ByteArray.size z_1.fst ≤ (500000 : Nat)) && decide ((0 : Int) ≤ z_1.snd) && decide (z_1.snd ≤
  (1000000 : Int)) then bif !F.cutF z_1.fst F.nl then some (Ex.ret, St.mk [(7, (vB false)), (6, .ptr 6 0 0)] [(900, Blk.mk true 0 0 [[(vS (F.cutT z_1.fst F.nl)), (vI
  (z_1.snd + (1 : Int)))]]), (890, Blk.mk false 9 1 (List.map eStr (bif Nat.beq (F.elK z.snd.snd.snd.snd.snd.snd.snd.fst z.snd.snd.snd.snd.snd.snd.snd.snd.fst) (0 : Nat)
  then z.snd.snd.snd.snd.snd.snd.fst ++ [z.snd.snd.snd.snd.snd.snd.snd.fst] else z.snd.snd.snd.snd.snd.snd.fst))), (6, Blk.mk true 0 0 [[(vS (bif Nat.beq (F.elK
  z.snd.snd.snd.snd.snd.snd.snd.fst z.snd.snd.snd.snd.snd.snd.snd.snd.fst) (6 : Nat) then z.snd.snd.snd.snd.snd.snd.snd.fst else z.fst)), (vI (bif Nat.beq (F.elK
  z.snd.snd.snd.snd.snd.snd.snd.fst z.snd.snd.snd.snd.snd.snd.snd.snd.fst) (5 : Nat) then F.milV (F.cutT z.snd.snd.snd.snd.snd.snd.snd.fst F.sp) else z.snd.fst)), (vB (bif
  Nat.beq (F.elK z.snd.snd.snd.snd.snd.snd.snd.fst z.snd.snd.snd.snd.snd.snd.snd.snd.fst) (1 : Nat) then true else z.snd.snd.fst)), (vI (bif Nat.beq (F.elK
  z.snd.snd.snd.snd.snd.snd.snd.fst z.snd.snd.snd.snd.snd.snd.snd.snd.fst) (2 : Nat) then F.dtV (F.cutT z.snd.snd.snd.snd.snd.snd.snd.fst F.sp) else z.snd.snd.snd.fst)), (vS
  (bif Nat.beq (F.elK z.snd.snd.snd.snd.snd.snd.snd.fst z.snd.snd.snd.snd.snd.snd.snd.snd.fst) (3 : Nat) then F.undash (F.cutT z.snd.snd.snd.snd.snd.snd.snd.fst F.sp) else
  z.snd.snd.snd.snd.fst)), (vB (bif Nat.beq (F.elK z.snd.snd.snd.snd.snd.snd.snd.fst z.snd.snd.snd.snd.snd.snd.snd.snd.fst) (4 : Nat) then true else
  z.snd.snd.snd.snd.snd.fst)), .own 890]])]) else some (Ex.normal, St.mk [(9, (vI (F.elR z.snd.snd.snd.snd.snd.snd.snd.fst z.snd.snd.snd.snd.snd.snd.snd.snd.fst
  z.snd.snd.snd.snd.snd.snd.snd.snd.snd))), (8, .ptr 8 0 0), (6, .ptr 6 0 0), (2, (vS key)), (1, (vS (F.cutH z_1.fst F.nl))), (0, .ptr 900 0 0)] [(900, Blk.mk true 0 0 [[(vS
  (F.cutT z_1.fst F.nl)), (vI (z_1.snd + (1 : Int)))]]), (890, Blk.mk false 9 1 (List.map eStr (bif Nat.beq (F.elK z.snd.snd.snd.snd.snd.snd.snd.fst
  z.snd.snd.snd.snd.snd.snd.snd.snd.fst) (0 : Nat) then z.snd.snd.snd.snd.snd.snd.fst ++ [z.snd.snd.snd.snd.snd.snd.snd.fst] else z.snd.snd.snd.snd.snd.snd.fst))), (8,
  Blk.mk true 0 0 [[(vS (bif Nat.beq (F.elK z.snd.snd.snd.snd.snd.snd.snd.fst z.snd.snd.snd.snd.snd.snd.snd.snd.fst) (6 : Nat) then z.snd.snd.snd.snd.snd.snd.snd.fst else
  z.fst)), (vI (bif Nat.beq (F.elK z.snd.snd.snd.snd.snd.snd.snd.fst z.snd.snd.snd.snd.snd.snd.snd.snd.fst) (5 : Nat) then F.milV (F.cutT z.snd.snd.snd.snd.snd.snd.snd.fst
  F.sp) else z.snd.fst)), (vB (bif Nat.beq (F.elK z.snd.snd.snd.snd.snd.snd.snd.fst z.snd.snd.snd.snd.snd.snd.snd.snd.fst) (1 : Nat) then true else z.snd.snd.fst)), (vI (bif
  Nat.beq (F.elK z.snd.snd.snd.snd.snd.snd.snd.fst z.snd.snd.snd.snd.snd.snd.snd.snd.fst) (2 : Nat) then F.dtV (F.cutT z.snd.snd.snd.snd.snd.snd.snd.fst F.sp) else
  z.snd.snd.snd.fst)), (vS (bif Nat.beq (F.elK z.snd.snd.snd.snd.snd.snd.snd.fst z.snd.snd.snd.snd.snd.snd.snd.snd.fst) (3 : Nat) then F.undash (F.cutT
  z.snd.snd.snd.snd.snd.snd.snd.fst F.sp) else z.snd.snd.snd.snd.fst)), (vB (bif Nat.beq (F.elK z.snd.snd.snd.snd.snd.snd.snd.fst z.snd.snd.snd.snd.snd.snd.snd.snd.fst) (4 :
  Nat) then true else z.snd.snd.snd.snd.snd.fst)), .own 890]]), (6, Blk.mk true 0 0 [[(vS (ByteArray.mk (Array.mk []))), (vI (0 : Int)), (vB false), (vI (0 : Int)), (vS
  (ByteArray.mk (Array.mk []))), (vB false), AV.e0]])]) else none else none := (execR_bind _ _ _).symm.trans (by kernel_rfl)

def outEo (r : Bool × ByteArray × Int × Ent) : T (Ex × St) :=
  .ret (.ret, ⟨[(7, vB r.1), (6, .ptr 6 0 0)], [(900, ⟨true, 0, 0, [[vS r.2.1, vI r.2.2.1]]⟩), (890, ⟨false, 9, 1, r.2.2.2.extra.map eStr⟩), (6, ⟨true, 0, 0, [[vS r.2.2.2.uri, vI r.2.2.2.milli, vB r.2.2.2.brk, vI r.2.2.2.date, vS r.2.2.2.key, vB r.2.2.2.gap, .own 890]]⟩)]⟩)

theorem lpEo_ok (s : ByteArray) (n : Int) (e : Ent) (line : ByteArray) (key : ByteArray) (rank : Int) (h1 : 0 ≤ n) (h2 : n + s.size ≤ 900000) (h3 : s.size + e.extra.length ≤ 500000) (h4 : line.size ≤ 500000) (h5 : 0 ≤ rank) (h6 : rank ≤ 5) :
    ∀ ex s', (outEo (F.enL s n e line key rank)).val = some (ex, s') → LoopOK enEn (loopN Tryd.f28 0) (stEo s n e.uri e.milli e.brk e.date e.key e.gap e.extra line key rank) ex s' := by
  refine loop_gen (st := fun p : ByteArray × Int × Ent × ByteArray × Int => stEo p.1 p.2.1 p.2.2.1.uri p.2.2.1.milli p.2.2.1.brk p.2.2.1.date p.2.2.1.key p.2.2.1.gap p.2.2.1.extra p.2.2.2.1 key p.2.2.2.2) (out := fun p => outEo (F.enL p.1 p.2.1 p.2.2.1 p.2.2.2.1 key p.2.2.2.2)) (I := fun p => 0 ≤ p.2.1 ∧ p.2.1 + p.1.size ≤ 900000 ∧ p.1.size + p.2.2.1.extra.length ≤ 500000 ∧ p.2.2.2.1.size ≤ 500000 ∧ 0 ≤ p.2.2.2.2 ∧ p.2.2.2.2 ≤ 5) (n := ([9, 8, 6, 2, 1, 0], [900, 890, 8, 6])) (e := ([], [])) (r := ([7, 6], [900, 890, 6])) (fun p => p.1.size) ?_ (s, n, e, line, rank) ⟨h1, h2, h3, h4, h5, h6⟩
  clear h1 h2 h3 h4 h5 h6
  rintro ⟨s, n, e, line, rank⟩ ⟨h1, h2, h3, h4, h5, h6⟩
  simp only at h1 h2 h3 h4 h5 h6
  have hb := F.elR_b line rank key
  have hb6 := F.elR_6 line rank key
  have hx := F.elE_len e line (F.elK line rank)
  have p1 : decide (line.size ≤ 500000) = true := decide_eq_true h4
  have p2 : decide (e.extra.length ≤ 600000) = true := decide_eq_true (by omega)
  have p3 : decide (0 ≤ rank) = true := decide_eq_true h5
  have p4 : decide (rank ≤ 5) = true := decide_eq_true h6
  have p5 : decide (s.size ≤ 500000) = true := decide_eq_true (by omega)
  have p6 : decide (0 ≤ n) = true := decide_eq_true h1
  have p7 : decide (n ≤ 1000000) = true := decide_eq_true (by omega)
  have q : stEo s n e.uri e.milli e.brk e.date e.key e.gap e.extra line key rank = stEo s n e.uri e.milli e.brk e.date e.key e.gap e.extra line key rank := rfl
  by_cases c1 : F.elR line rank key < 0
  · left
    refine ⟨(.ret, ⟨[(7, vB false), (6, .ptr 6 0 0)], [(900, ⟨true, 0, 0, [[vS s, vI n]]⟩), (890, ⟨false, 9, 1, (F.elE e line (F.elK line rank)).extra.map eStr⟩), (6, ⟨true, 0, 0, [[vS (F.elE e line (F.elK line rank)).uri, vI (F.elE e line (F.elK line rank)).milli, vB (F.elE e line (F.elK line rank)).brk, vI (F.elE e line (F.elK line rank)).date, vS (F.elE e line (F.elK line rank)).key, vB (F.elE e line (F.elK line rank)).gap, .own 890]]⟩)]⟩), ?_, ?_, by simp, rfl⟩
    · show ((exec enEn (loopN Tryd.f28 0) (stEo s n e.uri e.milli e.brk e.date e.key e.gap e.extra line key rank)).bind _).val = _
      rw [evEo]
      simp only [unTk, unEl, preTk1, preEl1, unstEn, prlEn, outEn, etaEnt, etaLst, etaSnd, etaStrm, etaMas, Option.bind_some, List.length_map, unStrs, unInts, unBools, unEnts, unItms, unTrns, cond_true, cond_false, Bool.and_true, Bool.true_and, p1, p2, p3, p4, F.eta_ent, decide_eq_true c1]
      rfl
    · simp only [outEo, F.enL_bad c1]
      rfl
  · by_cases c2 : F.elR line rank key = 6
    · left
      refine ⟨(.ret, ⟨[(7, vB true), (6, .ptr 6 0 0)], [(900, ⟨true, 0, 0, [[vS s, vI n]]⟩), (890, ⟨false, 9, 1, (F.elE e line (F.elK line rank)).extra.map eStr⟩), (6, ⟨true, 0, 0, [[vS (F.elE e line (F.elK line rank)).uri, vI (F.elE e line (F.elK line rank)).milli, vB (F.elE e line (F.elK line rank)).brk, vI (F.elE e line (F.elK line rank)).date, vS (F.elE e line (F.elK line rank)).key, vB (F.elE e line (F.elK line rank)).gap, .own 890]]⟩)]⟩), ?_, ?_, by simp, rfl⟩
      · show ((exec enEn (loopN Tryd.f28 0) (stEo s n e.uri e.milli e.brk e.date e.key e.gap e.extra line key rank)).bind _).val = _
        rw [evEo]
        simp only [unTk, unEl, preTk1, preEl1, unstEn, prlEn, outEn, etaEnt, etaLst, etaSnd, etaStrm, etaMas, Option.bind_some, List.length_map, unStrs, unInts, unBools, unEnts, unItms, unTrns, cond_true, cond_false, Bool.and_true, Bool.true_and, p1, p2, p3, p4, F.eta_ent, decide_eq_false c1, c2]
        rfl
      · simp only [outEo, F.enL_end c2]
        rfl
    · have c3 : (F.elR line rank key == 6) = false := by simp [c2]
      cases c4 : F.cutF s F.nl
      · left
        refine ⟨(.ret, ⟨[(7, vB false), (6, .ptr 6 0 0)], [(900, ⟨true, 0, 0, [[vS (F.cutT s F.nl), vI (n + 1)]]⟩), (890, ⟨false, 9, 1, (F.elE e line (F.elK line rank)).extra.map eStr⟩), (6, ⟨true, 0, 0, [[vS (F.elE e line (F.elK line rank)).uri, vI (F.elE e line (F.elK line rank)).milli, vB (F.elE e line (F.elK line rank)).brk, vI (F.elE e line (F.elK line rank)).date, vS (F.elE e line (F.elK line rank)).key, vB (F.elE e line (F.elK line rank)).gap, .own 890]]⟩)]⟩), ?_, ?_, by simp, rfl⟩
        · show ((exec enEn (loopN Tryd.f28 0) (stEo s n e.uri e.milli e.brk e.date e.key e.gap e.extra line key rank)).bind _).val = _
          rw [evEo]
          simp only [unTk, unEl, preTk1, preEl1, unstEn, prlEn, outEn, etaEnt, etaLst, etaSnd, etaStrm, etaMas, Option.bind_some, List.length_map, unStrs, unInts, unBools, unEnts, unItms, unTrns, cond_true, cond_false, Bool.and_true, Bool.true_and, p1, p2, p3, p4, p5, p6, p7, F.eta_ent, decide_eq_false c1, c3, c4]
          rfl
        · simp only [outEo, F.enL_open c1 c2 c4]
          rfl
      · right
        have z1 := F.cutT_lt F.nl_one (F.cutF_ne c4)
        have z2 := F.cutH_size s F.nl
        refine ⟨(F.cutT s F.nl, n + 1, F.elE e line (F.elK line rank), F.cutH s F.nl, F.elR line rank key), ?_, rfl, ⟨by simp only; omega, by simp only; omega, by simp only; omega, by simp only; omega, by simp only; omega, by simp only; omega⟩, by simp only; omega, ?_⟩
        · show ((exec enEn (loopN Tryd.f28 0) (stEo s n e.uri e.milli e.brk e.date e.key e.gap e.extra line key rank)).bind _).val = _
          rw [evEo]
          simp only [unTk, unEl, preTk1, preEl1, unstEn, prlEn, outEn, etaEnt, etaLst, etaSnd, etaStrm, etaMas, Option.bind_some, List.length_map, unStrs, unInts, unBools, unEnts, unItms, unTrns, cond_true, cond_false, Bool.and_true, Bool.true_and, p1, p2, p3, p4, p5, p6, p7, F.eta_ent, decide_eq_false c1, c3, c4, stEo]
          rfl
        · simp only [outEo, F.enL_go c1 c2 c4]

theorem lpEn_ok (s : ByteArray) (n : Int) (line : ByteArray) (key : ByteArray) (hp : prlEn s n line key = true) : ∀ ex s', (outEn s n line key).val = some (ex, s') → LoopOK enEn (loopN Tryd.f28 0) (stEn s n line key) ex s' := by
  simp only [prlEn, Bool.and_eq_true, decide_eq_true_eq] at hp
  obtain ⟨⟨⟨h1, h2⟩, h3⟩, h4⟩ := hp
  intro ex s' h
  refine .own 8 6 890 9 1 rfl ?_
  exact lpEo_ok s n (F.noE key) line key 0 h1 h2 (by show s.size + 0 ≤ _; omega) h4 (by omega) (by omega) ex s' h

theorem evEnt (s : ByteArray) (n : Int) (line : ByteArray) (key : ByteArray) : (runH enEn [] Tryd.f28 [.ptr 900 0 0, vS line, vS key] [(900, ⟨true, 0, 0, [[vS s, vI n]]⟩)]).val =
  Option.bind (unenc stEn1 (St.mk [(9, (vI (0 : Int))), (8, .ptr 8 0 0), (6, .ptr 6 0 0), (2, (vS key)), (1, (vS line)), (0, .ptr 900 0 0)] [(900, Blk.mk true 0 0 [[(vS s),
  (vI n)]]), (8, Blk.mk true 0 0 [[(vS (ByteArray.mk (Array.mk []))), (vI (0 : Int)), (vB false), (vI (-1 : Int)), (vS key), (vB false), AV.e0]]), (6, Blk.mk true 0 0 [[(vS
  (ByteArray.mk (Array.mk []))), (vI (0 : Int)), (vB false), (vI (0 : Int)), (vS (ByteArray.mk (Array.mk []))), (vB false), AV.e0]])])) fun (z : ByteArray × Int × ByteArray
  × ByteArray) => bif decide ((0 : Int) ≤ z.snd.fst) && decide (z.snd.fst + (↑(ByteArray.size z.fst) : Int) ≤ (900000 : Int)) && decide (ByteArray.size z.fst ≤ (500000 :
  Nat)) && decide (ByteArray.size z.snd.snd.fst ≤ (500000 : Nat)) && true then some (AV.tup [AV.agg [(vS (F.enL z.fst z.snd.fst (F.noE z.snd.snd.snd) z.snd.snd.fst
  z.snd.snd.snd (0 : Int)).snd.snd.snd.uri), (vI (F.enL z.fst z.snd.fst (F.noE z.snd.snd.snd) z.snd.snd.fst z.snd.snd.snd (0 : Int)).snd.snd.snd.milli), (vB (F.enL z.fst
  z.snd.fst (F.noE z.snd.snd.snd) z.snd.snd.fst z.snd.snd.snd (0 : Int)).snd.snd.snd.brk), (vI (F.enL z.fst z.snd.fst (F.noE z.snd.snd.snd) z.snd.snd.fst z.snd.snd.snd (0 :
  Int)).snd.snd.snd.date), (vS (F.enL z.fst z.snd.fst (F.noE z.snd.snd.snd) z.snd.snd.fst z.snd.snd.snd (0 : Int)).snd.snd.snd.key), (vB (F.enL z.fst z.snd.fst (F.noE
  z.snd.snd.snd) z.snd.snd.fst z.snd.snd.snd (0 : Int)).snd.snd.snd.gap), .own 0], (vB (F.enL z.fst z.snd.fst (F.noE z.snd.snd.snd) z.snd.snd.fst z.snd.snd.snd (0 :
  Int)).fst)], [(900, Blk.mk true 0 0 [[(vS (F.enL z.fst z.snd.fst (F.noE z.snd.snd.snd) z.snd.snd.fst z.snd.snd.snd (0 : Int)).snd.fst), (vI (F.enL z.fst z.snd.fst (F.noE
  z.snd.snd.snd) z.snd.snd.fst z.snd.snd.snd (0 : Int)).snd.snd.fst)]]), (0, Blk.mk false 9 1 (List.map eStr (F.enL z.fst z.snd.fst (F.noE z.snd.snd.snd) z.snd.snd.fst
  z.snd.snd.snd (0 : Int)).snd.snd.snd.extra))], []) else none := (runHR_val).symm.trans (by kernel_rfl)

def encEnt1 (s : ByteArray) (n : Int) (line : ByteArray) (key : ByteArray) : List AV × Heap := ([.ptr 900 0 0, vS line, vS key], [(900, ⟨true, 0, 0, [[vS s, vI n]]⟩)])

def encEnt (a : ByteArray × Int × ByteArray × ByteArray) : List AV × Heap := encEnt1 a.1 a.2.1 a.2.2.1 a.2.2.2

theorem encEnt_inj (a a' : ByteArray × Int × ByteArray × ByteArray) (h : encEnt a = encEnt a') : a = a' := by
  simp only [encEnt, encEnt1] at h
  try simp [strs_inj, ints_inj, ents_inj, eEnt_iff, eLst_iff, eSnds_inj, eStrms_inj] at h
  grind

theorem unEnt (s : ByteArray) (n : Int) (line : ByteArray) (key : ByteArray) : unenc encEnt (([.ptr 900 0 0, (vS line), (vS key)], [(900, Blk.mk true 0 0 [[(vS s), (vI n)]])])) = some (s, n, line, key) := unenc_of encEnt_inj (s, n, line, key) rfl

def resEnt1 (s : ByteArray) (n : Int) (line : ByteArray) (key : ByteArray) : AV × Heap × List Nat := (.tup [.agg [vS (F.enL s n (F.noE key) line key 0).2.2.2.uri, vI (F.enL s n (F.noE key) line key 0).2.2.2.milli, vB (F.enL s n (F.noE key) line key 0).2.2.2.brk, vI (F.enL s n (F.noE key) line key 0).2.2.2.date, vS (F.enL s n (F.noE key) line key 0).2.2.2.key, vB (F.enL s n (F.noE key) line key 0).2.2.2.gap, .own 0], vB (F.enL s n (F.noE key) line key 0).1], [(900, ⟨true, 0, 0, [[vS (F.enL s n (F.noE key) line key 0).2.1, vI (F.enL s n (F.noE key) line key 0).2.2.1]]⟩), (0, ⟨false, 9, 1, (F.enL s n (F.noE key) line key 0).2.2.2.extra.map eStr⟩)], [])

def preEnt1 (s : ByteArray) (n : Int) (line : ByteArray) (key : ByteArray) : Bool := decide (0 ≤ n) && decide (n + s.size ≤ 900000) && decide (s.size ≤ 500000) && decide (line.size ≤ 500000)

noncomputable def oEnt : OrcH := orcH 28 encEnt (fun a => preEnt1 a.1 a.2.1 a.2.2.1 a.2.2.2) fun a => resEnt1 a.1 a.2.1 a.2.2.1 a.2.2.2

theorem okEnt : OrcHOK Tryd.prog noG oEnt := by
  refine mkH_ok (mv := []) Tryd.f28 (by kernel_rfl) (by kernel_rfl) enEn_ok mixed (one_loop (x0 := loopN Tryd.f28 0) (by kernel_rfl) (lpo_ok ?_)) ?_
  · rintro ⟨s, n, line, key⟩ hp
    exact lpEn_ok s n line key hp
  rintro ⟨s, n, line, key⟩ hpre hok hokh
  show (runH enEn [] _ (encEnt1 _ _ _ _).1 (encEnt1 _ _ _ _).2).val = some (resEnt1 _ _ _ _)
  unfold encEnt1 resEnt1
  rw [evEnt]
  simp only [preEnt1] at hpre
  simp only [unTk, unEl, preTk1, preEl1, unstEn, prlEn, outEn, etaEnt, etaLst, etaSnd, etaStrm, etaMas, Option.bind_some, List.length_map, unStrs, unInts, unBools, unEnts, unItms, unTrns, cond_true, cond_false, Bool.and_true, Bool.true_and, hpre]

end M
end Go.Proofs.YtgkjfochkhiojaaDoor
