/- What is proved here: what the law of clients that load and play returns on plain data (no statement of the seat). -/
import Derived.Test.YtkfhfjcgegimbaaE21
namespace Go.Proofs.Ytkfhfjcgegimbaa
open Go Go.RowKit
set_option linter.unusedVariables false
set_option linter.unusedSimpArgs false

open Classical in
noncomputable def F.piB (f0 b : Int) (now : Lst) (a : Cli × Int × Int) : Bool := decide (F.PI f0 b now a)

theorem F.piB_iff {f0 b : Int} {now : Lst} {a : Cli × Int × Int} : F.piB f0 b now a = true ↔ F.PI f0 b now a := by simp [F.piB]

def F.atB (l : List Bool) (k : Nat) : Bool := l.getD k false

def F.plB (p : Bool) (n : Nat) (a : Cli × Int × Int) : Cli × Int × Int := bif p then F.plN n a else a

theorem F.PI.plB {f0 b : Int} {now : Lst} {a : Cli × Int × Int} (h : F.PI f0 b now a) (p : Bool) (n : Nat) : F.PI f0 b now (F.plB p n a) := by
  unfold F.plB
  cases p
  · exact h
  · exact h.plN n

def F.ldB (p : Bool) (c : Cli) (now : Lst) (b : Int) : Cli × Int := bif p then F.load c now b else (c, 0)

/-- A round: a change, a load, three times Play at most. -/
def F.cpS (ls ps : List Bool) (b : Int) (a : Lst × Cli × Int × Int) (k : Nat) (t : Trn) : Option (Lst × Cli × Int × Int) :=
  bif (F.ldB (F.atB ls k) a.2.1 (F.turned a.1 t) b).2 != 0 then none else
  some (F.turned a.1 t, F.plB (F.atB ps k) 3 ((F.ldB (F.atB ls k) a.2.1 (F.turned a.1 t) b).1, a.2.2))

def F.cpr (ls ps : List Bool) (b : Int) : Lst × Cli × Int × Int → Nat → List Trn → Option (Lst × Cli × Int × Int)
  | a, _, [] => some a
  | a, k, t :: ts => match F.cpS ls ps b a k t with
    | none => none
    | some a' => F.cpr ls ps b a' (k + 1) ts

theorem F.cpS_ok {ls ps : List Bool} {f0 b : Int} {a : Lst × Cli × Int × Int} {k : Nat} {t : Trn} (h : F.PI f0 b a.1 a.2) : (F.ldB (F.atB ls k) a.2.1 (F.turned a.1 t) b = (F.noC, 17) ∧ F.atB ls k = true ∧ F.cpS ls ps b a k t = none) ∨
    ((F.ldB (F.atB ls k) a.2.1 (F.turned a.1 t) b).2 = 0 ∧ F.PI f0 b (F.turned a.1 t) ((F.ldB (F.atB ls k) a.2.1 (F.turned a.1 t) b).1, a.2.2) ∧
      F.cpS ls ps b a k t = some (F.turned a.1 t, F.plB (F.atB ps k) 3 ((F.ldB (F.atB ls k) a.2.1 (F.turned a.1 t) b).1, a.2.2))) := by
  have h' := h.turned t
  unfold F.cpS F.ldB
  cases hl : F.atB ls k
  · right
    exact ⟨rfl, h', rfl⟩
  · simp only [cond_true]
    rcases h'.load with h1 | ⟨h1, h2⟩
    · left
      rw [h1]
      exact ⟨rfl, trivial, rfl⟩
    · right
      refine ⟨h1, h2, ?_⟩
      rw [h1]
      rfl

theorem F.cpr_ok {ls ps : List Bool} {f0 b : Int} : ∀ {ts : List Trn} {a : Lst × Cli × Int × Int} {k : Nat} {a' : Lst × Cli × Int × Int}, F.PI f0 b a.1 a.2 → F.cpr ls ps b a k ts = some a' → F.PI f0 b a'.1 a'.2
  | [], a, k, a', h, e => by simp only [F.cpr, Option.some.injEq] at e; subst e; exact h
  | t :: ts, a, k, a', h, e => by
    simp only [F.cpr] at e
    rcases F.cpS_ok (ls := ls) (ps := ps) (k := k) (t := t) h with ⟨_, _, h1⟩ | ⟨_, h2, h1⟩
    · rw [h1] at e; cases e
    · rw [h1] at e
      exact F.cpr_ok (h2.plB _ _) e

theorem F.PI.pl0 {f0 b : Int} {now : Lst} {a : Cli × Int × Int} (h : F.PI f0 b now a) (h0 : a.1.queue.isEmpty = true) : F.play a.1 = (F.noC, F.noI, 9) := by
  unfold F.play
  rw [h.cli (b' := 0) (by omega), h0]
  rfl

theorem F.atB_lt {l : List Bool} {k : Nat} (h : F.atB l k = true) : k < l.length := by
  rcases Nat.lt_or_ge k l.length with h1 | h1
  · exact h1
  · simp [F.atB, List.getD, List.getElem?_eq_none h1] at h

theorem F.load_bad {c : Cli} {l : Lst} {b : Int} (h : ((F.load c l b).2 != 0) = true) : (F.load c l b).1 = F.noC := by
  unfold F.load at h ⊢
  cases h1 : F.check l != 0
  · rw [h1] at h
    cases h2 : (F.begin c l b).2 != 0
    · rw [h2] at h
      cases h3 : F.lt 2000 (F.loadR c l b).2.2.2.length
      · rw [h3] at h; simp at h
      · rfl
    · rfl
  · rfl

def F.a0 : Lst × Cli × Int × Int := (F.noL, F.noC, 0, 0)

namespace M


def stPIn (ts : List Trn) (ls : List Bool) (ps : List Bool) (b : Int) (f0 : Int) (now : Lst) (c : Cli) (last : Int) (played : Int) (i : Nat) (k : Nat) : St := ⟨[(20, vI k), (17, vI i), (16, vI played), (15, vI last), (14, vI f0), (12, .ptr 12 0 0), (11, .ptr 11 0 0), (4, vI b), (3, .sl (ps.map eB)), (2, .sl (ls.map eB)), (1, .sl (ts.map eTrn))], [(12, ⟨true, 0, 0, [eCli c]⟩), (11, ⟨true, 0, 0, [eLst now]⟩)]⟩

def stPIn1 (a : (List Trn) × (List Bool) × (List Bool) × Int × Int × Lst × Cli × Int × Int × Nat × Nat) : St := stPIn a.1 a.2.1 a.2.2.1 a.2.2.2.1 a.2.2.2.2.1 a.2.2.2.2.2.1 a.2.2.2.2.2.2.1 a.2.2.2.2.2.2.2.1 a.2.2.2.2.2.2.2.2.1 a.2.2.2.2.2.2.2.2.2.1 a.2.2.2.2.2.2.2.2.2.2

theorem stPIn_inj (a a' : (List Trn) × (List Bool) × (List Bool) × Int × Int × Lst × Cli × Int × Int × Nat × Nat) (h : stPIn1 a = stPIn1 a') : a = a' := by
  simp only [stPIn1, stPIn] at h
  try simp [strs_inj, ents_inj, eEnt_iff, eLst_iff, ints_inj, eTrn_iff, itms_inj, eCli_iff, eItm_iff, trns_inj, bools_inj] at h
  grind

theorem unstPIn (ts : List Trn) (ls : List Bool) (ps : List Bool) (b : Int) (f0 : Int) (now : Lst) (c : Cli) (last : Int) (played : Int) (i : Nat) (k : Nat) : unenc stPIn1 (St.mk [(20, (vI (↑k : Int))), (17, (vI (↑i : Int))), (16, (vI played)), (15, (vI last)), (14, (vI f0)), (12, .ptr 12 0 0), (11, .ptr 11 0 0), (4, (vI b)), (3, AV.sl
  (List.map eB ps)), (2, AV.sl (List.map eB ls)), (1, AV.sl (List.map eTrn ts))] [(12, Blk.mk true 0 0 [[(vB c.begun), (vI c.next), (vI c.last.target), (vI c.last.first),
  (vI c.last.breaks), AV.sl (List.map eEnt c.last.entries), (vB c.last.ended), AV.sl (List.map eItm c.queue), (vI c.lost)]]), (11, Blk.mk true 0 0 [[(vI now.target), (vI
  now.first), (vI now.breaks), AV.sl (List.map eEnt now.entries), (vB now.ended)]])]) = some (ts, ls, ps, b, f0, now, c, last, played, i, k) := unenc_of stPIn_inj (ts, ls, ps, b, f0, now, c, last, played, i, k) rfl

theorem unstPIn0 (ts : List Trn) (ls : List Bool) (ps : List Bool) (b : Int) (f0 : Int) (now : Lst) (c : Cli) (last : Int) (played : Int) (i : Nat) : unenc stPIn1 (St.mk [(20, (vI (0 : Int))), (17, (vI (↑i : Int))), (16, (vI played)), (15, (vI last)), (14, (vI f0)), (12, .ptr 12 0 0), (11, .ptr 11 0 0), (4, (vI b)), (3, AV.sl
  (List.map eB ps)), (2, AV.sl (List.map eB ls)), (1, AV.sl (List.map eTrn ts))] [(12, Blk.mk true 0 0 [[(vB c.begun), (vI c.next), (vI c.last.target), (vI c.last.first),
  (vI c.last.breaks), AV.sl (List.map eEnt c.last.entries), (vB c.last.ended), AV.sl (List.map eItm c.queue), (vI c.lost)]]), (11, Blk.mk true 0 0 [[(vI now.target), (vI
  now.first), (vI now.breaks), AV.sl (List.map eEnt now.entries), (vB now.ended)]])]) = some (ts, ls, ps, b, f0, now, c, last, played, i, 0) := unenc_of stPIn_inj (ts, ls, ps, b, f0, now, c, last, played, i, 0) rfl

def outPIn (ts : List Trn) (ls : List Bool) (ps : List Bool) (b : Int) (f0 : Int) (now : Lst) (c : Cli) (last : Int) (played : Int) (i : Nat) (k : Nat) : T (Ex × St) := .ret (.exit 2, ⟨[(17, vI i), (16, vI (F.plB (F.atB ps i) (3 - k) (c, last, played)).2.2), (15, vI (F.plB (F.atB ps i) (3 - k) (c, last, played)).2.1), (14, vI f0), (12, .ptr 12 0 0), (11, .ptr 11 0 0), (4, vI b), (3, .sl (ps.map eB)), (2, .sl (ls.map eB)), (1, .sl (ts.map eTrn))], [(12, ⟨true, 0, 0, [eCli (F.plB (F.atB ps i) (3 - k) (c, last, played)).1]⟩), (11, ⟨true, 0, 0, [eLst now]⟩)]⟩)

noncomputable def prlPIn (ts : List Trn) (ls : List Bool) (ps : List Bool) (b : Int) (f0 : Int) (now : Lst) (c : Cli) (last : Int) (played : Int) (i : Nat) (k : Nat) : Bool := decide (ps.length ≤ 9223372036854775807) && decide (k ≤ 3) && F.piB f0 b now (c, last, played)

noncomputable def lpPIn : Nat × (St → T (Ex × St)) := (17, lpo [20, 17, 16, 15, 14, 12, 11, 4, 3, 2, 1] [12, 11] stPIn1 (fun a => prlPIn a.1 a.2.1 a.2.2.1 a.2.2.2.1 a.2.2.2.2.1 a.2.2.2.2.2.1 a.2.2.2.2.2.2.1 a.2.2.2.2.2.2.2.1 a.2.2.2.2.2.2.2.2.1 a.2.2.2.2.2.2.2.2.2.1 a.2.2.2.2.2.2.2.2.2.2) fun a => outPIn a.1 a.2.1 a.2.2.1 a.2.2.2.1 a.2.2.2.2.1 a.2.2.2.2.2.1 a.2.2.2.2.2.2.1 a.2.2.2.2.2.2.2.1 a.2.2.2.2.2.2.2.2.1 a.2.2.2.2.2.2.2.2.2.1 a.2.2.2.2.2.2.2.2.2.2)

def stPOu (ts : List Trn) (ls : List Bool) (ps : List Bool) (b : Int) (f0 : Int) (now : Lst) (c : Cli) (last : Int) (played : Int) (i : Nat) : St := ⟨[(17, vI i), (16, vI played), (15, vI last), (14, vI f0), (12, .ptr 12 0 0), (11, .ptr 11 0 0), (4, vI b), (3, .sl (ps.map eB)), (2, .sl (ls.map eB)), (1, .sl (ts.map eTrn))], [(12, ⟨true, 0, 0, [eCli c]⟩), (11, ⟨true, 0, 0, [eLst now]⟩)]⟩

def stPOu1 (a : (List Trn) × (List Bool) × (List Bool) × Int × Int × Lst × Cli × Int × Int × Nat) : St := stPOu a.1 a.2.1 a.2.2.1 a.2.2.2.1 a.2.2.2.2.1 a.2.2.2.2.2.1 a.2.2.2.2.2.2.1 a.2.2.2.2.2.2.2.1 a.2.2.2.2.2.2.2.2.1 a.2.2.2.2.2.2.2.2.2

theorem stPOu_inj (a a' : (List Trn) × (List Bool) × (List Bool) × Int × Int × Lst × Cli × Int × Int × Nat) (h : stPOu1 a = stPOu1 a') : a = a' := by
  simp only [stPOu1, stPOu] at h
  try simp [strs_inj, ents_inj, eEnt_iff, eLst_iff, ints_inj, eTrn_iff, itms_inj, eCli_iff, eItm_iff, trns_inj, bools_inj] at h
  grind

theorem unstPOu (ts : List Trn) (ls : List Bool) (ps : List Bool) (b : Int) (f0 : Int) (now : Lst) (c : Cli) (last : Int) (played : Int) (i : Nat) : unenc stPOu1 (St.mk [(17, (vI (↑i : Int))), (16, (vI played)), (15, (vI last)), (14, (vI f0)), (12, .ptr 12 0 0), (11, .ptr 11 0 0), (4, (vI b)), (3, AV.sl (List.map eB ps)), (2, AV.sl
  (List.map eB ls)), (1, AV.sl (List.map eTrn ts))] [(12, Blk.mk true 0 0 [[(vB c.begun), (vI c.next), (vI c.last.target), (vI c.last.first), (vI c.last.breaks), AV.sl
  (List.map eEnt c.last.entries), (vB c.last.ended), AV.sl (List.map eItm c.queue), (vI c.lost)]]), (11, Blk.mk true 0 0 [[(vI now.target), (vI now.first), (vI now.breaks),
  AV.sl (List.map eEnt now.entries), (vB now.ended)]])]) = some (ts, ls, ps, b, f0, now, c, last, played, i) := unenc_of stPOu_inj (ts, ls, ps, b, f0, now, c, last, played, i) rfl

theorem unstPOu0 (ts : List Trn) (ls : List Bool) (ps : List Bool) (b : Int) (f0 : Int) (now : Lst) (c : Cli) (last : Int) (played : Int) : unenc stPOu1 (St.mk [(17, (vI (0 : Int))), (16, (vI played)), (15, (vI last)), (14, (vI f0)), (12, .ptr 12 0 0), (11, .ptr 11 0 0), (4, (vI b)), (3, AV.sl (List.map eB ps)), (2, AV.sl
  (List.map eB ls)), (1, AV.sl (List.map eTrn ts))] [(12, Blk.mk true 0 0 [[(vB c.begun), (vI c.next), (vI c.last.target), (vI c.last.first), (vI c.last.breaks), AV.sl
  (List.map eEnt c.last.entries), (vB c.last.ended), AV.sl (List.map eItm c.queue), (vI c.lost)]]), (11, Blk.mk true 0 0 [[(vI now.target), (vI now.first), (vI now.breaks),
  AV.sl (List.map eEnt now.entries), (vB now.ended)]])]) = some (ts, ls, ps, b, f0, now, c, last, played, 0) := unenc_of stPOu_inj (ts, ls, ps, b, f0, now, c, last, played, 0) rfl

def outPOu (ts : List Trn) (ls : List Bool) (ps : List Bool) (b : Int) (f0 : Int) (now : Lst) (c : Cli) (last : Int) (played : Int) (i : Nat) : T (Ex × St) := .ifB (F.found (F.cpr ls ps b (now, c, last, played) i (ts.drop i))) (.ret (.exit 0, ⟨[(16, vI (F.got (F.cpr ls ps b (now, c, last, played) i (ts.drop i)) F.a0).2.2.2), (14, vI f0), (12, .ptr 12 0 0)], [(12, ⟨true, 0, 0, [eCli (F.got (F.cpr ls ps b (now, c, last, played) i (ts.drop i)) F.a0).2.1]⟩)]⟩)) (.ret (.ret, ⟨[(10, vB true)], []⟩))

noncomputable def prlPOu (ts : List Trn) (ls : List Bool) (ps : List Bool) (b : Int) (f0 : Int) (now : Lst) (c : Cli) (last : Int) (played : Int) (i : Nat) : Bool := decide (ts.length ≤ 9223372036854775807) && decide (ls.length ≤ 9223372036854775807) && decide (ps.length ≤ 9223372036854775807) && decide (i ≤ ts.length) && F.tOK ts && F.piB f0 b now (c, last, played)

noncomputable def lpPOu : Nat × (St → T (Ex × St)) := (8, lpo [17, 16, 15, 14, 12, 11, 4, 3, 2, 1] [12, 11] stPOu1 (fun a => prlPOu a.1 a.2.1 a.2.2.1 a.2.2.2.1 a.2.2.2.2.1 a.2.2.2.2.2.1 a.2.2.2.2.2.2.1 a.2.2.2.2.2.2.2.1 a.2.2.2.2.2.2.2.2.1 a.2.2.2.2.2.2.2.2.2) fun a => outPOu a.1 a.2.1 a.2.2.1 a.2.2.2.1 a.2.2.2.2.1 a.2.2.2.2.2.1 a.2.2.2.2.2.2.1 a.2.2.2.2.2.2.2.1 a.2.2.2.2.2.2.2.2.1 a.2.2.2.2.2.2.2.2.2)

noncomputable def enPOu : Env := envH ty noG lks [oLod, oTrd, oPly, oAwk] [] [] [lpPOu, lpPIn]

theorem enPOu_ok : EnvOK Try.prog enPOu := by
  refine envH_ok lks_ok ty_ok ?_ ?_
  · simp only [List.forall_mem_cons]
    exact ⟨okLod, okTrd, okPly, okAwk, by simp⟩
  · simp

theorem evPInL (ts : List Trn) (ls : List Bool) (ps : List Bool) (b : Int) (f0 : Int) (now : Lst) (c : Cli) (last : Int) (played : Int) (i : Nat) (k : Nat) : ((exec enPOu (loopN Try.f10 1) (stPIn ts ls ps b f0 now c last played i k)).bind (lessX ([20, 17, 16, 15, 14, 12, 11, 4, 3, 2, 1], [12, 11]) ([17, 16, 15, 14, 12, 11, 4, 3, 2, 1], [12, 11]) ([10], []))).val =
  bif decide ((↑i : Int) < (↑(List.length (List.map eB ps)) : Int)) then Option.bind (unenc (List.map eB) (List.map eB ps)) fun (z : List Bool) => bif decide (i <
  List.length z) then bif bif bif decide ((↑i : Int) < (↑(List.length (List.map eB ps)) : Int)) then List.getD z i false else false then decide ((↑k : Int) < (3 : Int)) else
  false then Option.bind (unenc encPly [AV.agg [(vB c.begun), (vI c.next), (vI c.last.target), (vI c.last.first), (vI c.last.breaks), AV.sl (List.map eEnt c.last.entries),
  (vB c.last.ended), AV.sl (List.map eItm c.queue), (vI c.lost)]]) fun (z : Cli) => bif F.cOK z then bif (F.play z).snd.snd == (9 : Int) then some (Ex.exit (2 : Nat), St.mk
  [(17, (vI (↑i : Int))), (16, (vI played)), (15, (vI last)), (14, (vI f0)), (12, .ptr 12 0 0), (11, .ptr 11 0 0), (4, (vI b)), (3, AV.sl (List.map eB ps)), (2, AV.sl
  (List.map eB ls)), (1, AV.sl (List.map eTrn ts))] [(12, Blk.mk true 0 0 [[(vB c.begun), (vI c.next), (vI c.last.target), (vI c.last.first), (vI c.last.breaks), AV.sl
  (List.map eEnt c.last.entries), (vB c.last.ended), AV.sl (List.map eItm c.queue), (vI c.lost)]]), (11, Blk.mk true 0 0 [[(vI now.target), (vI now.first), (vI now.breaks),
  AV.sl (List.map eEnt now.entries), (vB now.ended)]])]) else bif bif (F.play z).snd.snd != (0 : Int) then true else decide ((F.play z).snd.fst.number ≤ last) then some
  (Ex.ret, St.mk [(10, (vB false))] []) else some (Ex.normal, St.mk [(20, (vI (IntKind.wrap IntKind.i64 ((↑k : Int) + (1 : Int))))), (17, (vI (↑i : Int))), (16, (vI
  (IntKind.wrap IntKind.i64 (played + (1 : Int))))), (15, (vI (F.play z).snd.fst.number)), (14, (vI f0)), (12, .ptr 12 0 0), (11, .ptr 11 0 0), (4, (vI b)), (3, AV.sl
  (List.map eB ps)), (2, AV.sl (List.map eB ls)), (1, AV.sl (List.map eTrn ts))] [(12, Blk.mk true 0 0 [[(vB (F.play z).fst.begun), (vI (F.play z).fst.next), (vI (F.play
  z).fst.last.target), (vI (F.play z).fst.last.first), (vI (F.play z).fst.last.breaks), AV.sl (List.map eEnt (F.play z).fst.last.entries), (vB (F.play z).fst.last.ended),
  AV.sl (List.map eItm (F.play z).fst.queue), (vI (F.play z).fst.lost)]]), (11, Blk.mk true 0 0 [[(vI now.target), (vI now.first), (vI now.breaks), AV.sl (List.map eEnt
  now.entries), (vB now.ended)]])]) else none else some (Ex.exit (2 : Nat), St.mk [(17, (vI (↑i : Int))), (16, (vI played)), (15, (vI last)), (14, (vI f0)), (12, .ptr 12 0
  0), (11, .ptr 11 0 0), (4, (vI b)), (3, AV.sl (List.map eB ps)), (2, AV.sl (List.map eB ls)), (1, AV.sl (List.map eTrn ts))] [(12, Blk.mk true 0 0 [[(vB c.begun), (vI
  c.next), (vI c.last.target), (vI c.last.first), (vI c.last.breaks), AV.sl (List.map eEnt c.last.entries), (vB c.last.ended), AV.sl (List.map eItm c.queue), (vI c.lost)]]),
  (11, Blk.mk true 0 0 [[(vI now.target), (vI now.first), (vI now.breaks), AV.sl (List.map eEnt now.entries), (vB now.ended)]])]) else none else bif decide ((↑i : Int) <
  (↑(List.length (List.map eB ps)) : Int)) then none else some (Ex.exit (2 : Nat), St.mk [(17, (vI (↑i : Int))), (16, (vI played)), (15, (vI last)), (14, (vI f0)), (12, .ptr
  12 0 0), (11, .ptr 11 0 0), (4, (vI b)), (3, AV.sl (List.map eB ps)), (2, AV.sl (List.map eB ls)), (1, AV.sl (List.map eTrn ts))] [(12, Blk.mk true 0 0 [[(vB c.begun), (vI
  c.next), (vI c.last.target), (vI c.last.first), (vI c.last.breaks), AV.sl (List.map eEnt c.last.entries), (vB c.last.ended), AV.sl (List.map eItm c.queue), (vI c.lost)]]),
  (11, Blk.mk true 0 0 [[(vI now.target), (vI now.first), (vI now.breaks), AV.sl (List.map eEnt now.entries), (vB now.ended)]])]) := by kernel_rfl

theorem lpPIn_ok (ts : List Trn) (ls : List Bool) (ps : List Bool) (b : Int) (f0 : Int) (now : Lst) (c : Cli) (last : Int) (played : Int) (i : Nat) (k : Nat) (hp : prlPIn ts ls ps b f0 now c last played i k = true) : ∀ ex s', (outPIn ts ls ps b f0 now c last played i k).val = some (ex, s') → LoopOK enPOu (loopN Try.f10 1) (stPIn ts ls ps b f0 now c last played i k) ex s' := by
  simp only [prlPIn, Bool.and_eq_true, decide_eq_true_eq] at hp
  obtain ⟨⟨h1, h2⟩, h3⟩ := hp
  refine loop_gen (st := fun a : (Cli × Int × Int) × Nat => stPIn ts ls ps b f0 now a.1.1 a.1.2.1 a.1.2.2 i a.2) (out := fun a => outPIn ts ls ps b f0 now a.1.1 a.1.2.1 a.1.2.2 i a.2) (I := fun a => a.2 ≤ 3 ∧ F.PI f0 b now a.1) (n := ([20, 17, 16, 15, 14, 12, 11, 4, 3, 2, 1], [12, 11])) (e := ([17, 16, 15, 14, 12, 11, 4, 3, 2, 1], [12, 11])) (r := ([10], [])) (fun a => 3 - a.2) ?_ ((c, last, played), k) ⟨h2, F.piB_iff.1 h3⟩
  rintro ⟨⟨c, last, played⟩, k⟩ ⟨hk, hP⟩
  simp only at hk hP
  have hcok := hP.cok
  simp only at hcok
  have stop : (bif F.atB ps i then decide (k < 3) else false) = false → F.plB (F.atB ps i) (3 - k) (c, last, played) = (c, last, played) := by
    intro h
    cases hp : F.atB ps i
    · rfl
    · rw [hp] at h
      simp only [cond_true, decide_eq_false_iff_not] at h
      rw [show 3 - k = 0 by omega]
      rfl
  have hps : ∀ x, F.atB ps i = x → ps.getD i false = x := fun x h => h
  cases hp : F.atB ps i
  · left
    refine ⟨(.exit 2, ⟨[(17, vI i), (16, vI played), (15, vI last), (14, vI f0), (12, .ptr 12 0 0), (11, .ptr 11 0 0), (4, vI b), (3, .sl (ps.map eB)), (2, .sl (ls.map eB)), (1, .sl (ts.map eTrn))], [(12, ⟨true, 0, 0, [eCli c]⟩), (11, ⟨true, 0, 0, [eLst now]⟩)]⟩), ?_, ?_, by simp, rfl⟩
    · rw [evPInL]
      by_cases hi : i < ps.length
      · simp only [unLod, unTrd, unPly, unAwk, unLodw, unTrdw, preLod1, preTrd1, prePly1, preAwk1, unstPOu, unstPIn, unstPOu0, unstPIn0, prlPOu, prlPIn, outPOu, outPIn, etaEnt, etaLst, Option.bind_some, List.length_map, unStrs, unInts, unBools, unEnts, unItms, unTrns, cond_true, cond_false, Bool.and_true, Bool.true_and, cast_lt hi, decide_eq_true hi, hps _ hp]
        rfl
      · have hi' : decide ((i : Int) < (ps.length : Int)) = false := decide_eq_false (by omega)
        simp only [unLod, unTrd, unPly, unAwk, unLodw, unTrdw, preLod1, preTrd1, prePly1, preAwk1, unstPOu, unstPIn, unstPOu0, unstPIn0, prlPOu, prlPIn, outPOu, outPIn, etaEnt, etaLst, Option.bind_some, List.length_map, unStrs, unInts, unBools, unEnts, unItms, unTrns, cond_true, cond_false, Bool.and_true, Bool.true_and, hi']
        rfl
    · simp only [outPIn, hp, F.plB, cond_false]
      rfl
  · have hi := F.atB_lt hp
    by_cases hk3 : k < 3
    · have hk3' : decide ((k : Int) < 3) = true := decide_eq_true (by omega)
      cases h0 : c.queue.isEmpty
      · obtain ⟨p1, p2, p3, p4⟩ := hP.pl h0
        right
        refine ⟨(F.pl1 (c, last, played), k + 1), ?_, rfl, ⟨by simp only; omega, p4⟩, by simp only; omega, ?_⟩
        · rw [evPInL]
          simp only at p1 p2 p3
          have hn : decide ((c.queue.getD 0 F.noI).number ≤ last) = false := decide_eq_false (by rw [p2]; omega)
          simp only [unLod, unTrd, unPly, unAwk, unLodw, unTrdw, preLod1, preTrd1, prePly1, preAwk1, unstPOu, unstPIn, unstPOu0, unstPIn0, prlPOu, prlPIn, outPOu, outPIn, etaEnt, etaLst, Option.bind_some, List.length_map, unStrs, unInts, unBools, unEnts, unItms, unTrns, cond_true, cond_false, Bool.and_true, Bool.true_and, cast_lt hi, decide_eq_true hi, hps _ hp, hk3', hcok, p1, hn, next_at hk3 (by omega : 3 ≤ 9223372036854775807)]
          rw [p2]
          rfl
        · simp only [outPIn, hp, F.plB, cond_true]
          rw [show 3 - k = (3 - (k + 1)) + 1 by omega]
          simp only [F.plN, h0, cond_false]
      · left
        refine ⟨(.exit 2, ⟨[(17, vI i), (16, vI played), (15, vI last), (14, vI f0), (12, .ptr 12 0 0), (11, .ptr 11 0 0), (4, vI b), (3, .sl (ps.map eB)), (2, .sl (ls.map eB)), (1, .sl (ts.map eTrn))], [(12, ⟨true, 0, 0, [eCli c]⟩), (11, ⟨true, 0, 0, [eLst now]⟩)]⟩), ?_, ?_, by simp, rfl⟩
        · rw [evPInL]
          have p1 := hP.pl0 h0
          simp only at p1
          simp only [unLod, unTrd, unPly, unAwk, unLodw, unTrdw, preLod1, preTrd1, prePly1, preAwk1, unstPOu, unstPIn, unstPOu0, unstPIn0, prlPOu, prlPIn, outPOu, outPIn, etaEnt, etaLst, Option.bind_some, List.length_map, unStrs, unInts, unBools, unEnts, unItms, unTrns, cond_true, cond_false, Bool.and_true, Bool.true_and, cast_lt hi, decide_eq_true hi, hps _ hp, hk3', hcok, p1]
          rfl
        · simp only [outPIn, hp, F.plB, cond_true]
          rw [show 3 - k = (3 - (k + 1)) + 1 by omega]
          simp only [F.plN, h0, cond_true]
          rfl
    · have hk3' : decide ((k : Int) < 3) = false := decide_eq_false (by omega)
      left
      refine ⟨(.exit 2, ⟨[(17, vI i), (16, vI played), (15, vI last), (14, vI f0), (12, .ptr 12 0 0), (11, .ptr 11 0 0), (4, vI b), (3, .sl (ps.map eB)), (2, .sl (ls.map eB)), (1, .sl (ts.map eTrn))], [(12, ⟨true, 0, 0, [eCli c]⟩), (11, ⟨true, 0, 0, [eLst now]⟩)]⟩), ?_, ?_, by simp, rfl⟩
      · rw [evPInL]
        simp only [unLod, unTrd, unPly, unAwk, unLodw, unTrdw, preLod1, preTrd1, prePly1, preAwk1, unstPOu, unstPIn, unstPOu0, unstPIn0, prlPOu, prlPIn, outPOu, outPIn, etaEnt, etaLst, Option.bind_some, List.length_map, unStrs, unInts, unBools, unEnts, unItms, unTrns, cond_true, cond_false, Bool.and_true, Bool.true_and, cast_lt hi, decide_eq_true hi, hps _ hp, hk3']
        rfl
      · simp only [outPIn]
        rw [stop (by rw [hp]; simp; omega)]
        rfl

theorem evPOuL (ts : List Trn) (ls : List Bool) (ps : List Bool) (b : Int) (f0 : Int) (now : Lst) (c : Cli) (last : Int) (played : Int) (i : Nat) : ((exec enPOu (loopN Try.f10 0) (stPOu ts ls ps b f0 now c last played i)).bind (lessX ([17, 16, 15, 14, 12, 11, 4, 3, 2, 1], [12, 11]) ([16, 14, 12], [12]) ([10], []))).val =
  bif decide ((↑i : Int) < (↑(List.length (List.map eTrn ts)) : Int)) then Option.bind (unenc (List.map eTrn) (List.map eTrn ts)) fun (z : List Trn) => bif decide (i <
  List.length z) then Option.bind (unenc encTrd [AV.agg [(vI now.target), (vI now.first), (vI now.breaks), AV.sl (List.map eEnt now.entries), (vB now.ended)], AV.agg [(vI
  (List.getD z i (Trn.mk (0 : Int) (Ent.mk (ByteArray.mk (Array.mk [])) (0 : Int) false (0 : Int) (ByteArray.mk (Array.mk [])) false []) (0 : Int))).kind), (vS (List.getD z
  i (Trn.mk (0 : Int) (Ent.mk (ByteArray.mk (Array.mk [])) (0 : Int) false (0 : Int) (ByteArray.mk (Array.mk [])) false []) (0 : Int))).entry.uri), (vI (List.getD z i
  (Trn.mk (0 : Int) (Ent.mk (ByteArray.mk (Array.mk [])) (0 : Int) false (0 : Int) (ByteArray.mk (Array.mk [])) false []) (0 : Int))).entry.milli), (vB (List.getD z i
  (Trn.mk (0 : Int) (Ent.mk (ByteArray.mk (Array.mk [])) (0 : Int) false (0 : Int) (ByteArray.mk (Array.mk [])) false []) (0 : Int))).entry.brk), (vI (List.getD z i (Trn.mk
  (0 : Int) (Ent.mk (ByteArray.mk (Array.mk [])) (0 : Int) false (0 : Int) (ByteArray.mk (Array.mk [])) false []) (0 : Int))).entry.date), (vS (List.getD z i (Trn.mk (0 :
  Int) (Ent.mk (ByteArray.mk (Array.mk [])) (0 : Int) false (0 : Int) (ByteArray.mk (Array.mk [])) false []) (0 : Int))).entry.key), (vB (List.getD z i (Trn.mk (0 : Int)
  (Ent.mk (ByteArray.mk (Array.mk [])) (0 : Int) false (0 : Int) (ByteArray.mk (Array.mk [])) false []) (0 : Int))).entry.gap), AV.sl (List.map eStr (List.getD z i (Trn.mk
  (0 : Int) (Ent.mk (ByteArray.mk (Array.mk [])) (0 : Int) false (0 : Int) (ByteArray.mk (Array.mk [])) false []) (0 : Int))).entry.extra), (vI (List.getD z i (Trn.mk (0 :
  Int) (Ent.mk (ByteArray.mk (Array.mk [])) (0 : Int) false (0 : Int) (ByteArray.mk (Array.mk [])) false []) (0 : Int))).keep)]]) fun (z : Lst × Trn) => bif decide
  (List.length z.snd.entry.extra * (16 : Nat) ≤ (140737488355328 : Nat)) then bif decide ((↑i : Int) < (↑(List.length (List.map eB ls)) : Int)) then Option.bind (unenc
  (List.map eB) (List.map eB ls)) fun (z_1 : List Bool) => bif decide (i < List.length z_1) then bif bif decide ((↑i : Int) < (↑(List.length (List.map eB ls)) : Int)) then
  List.getD z_1 i false else false then Option.bind (unenc encLod [AV.agg [(vB c.begun), (vI c.next), (vI c.last.target), (vI c.last.first), (vI c.last.breaks), AV.sl
  (List.map eEnt c.last.entries), (vB c.last.ended), AV.sl (List.map eItm c.queue), (vI c.lost)], AV.agg [(vI (F.turned z.fst z.snd).target), (vI (F.turned z.fst
  z.snd).first), (vI (F.turned z.fst z.snd).breaks), AV.sl (List.map eEnt (F.turned z.fst z.snd).entries), (vB (F.turned z.fst z.snd).ended)], (vI b)]) fun (z_2 : Cli × Lst
  × Int) => bif F.cOK z_2.fst then bif (F.load z_2.fst z_2.snd.fst z_2.snd.snd).snd != (0 : Int) then bif bif (F.load z_2.fst z_2.snd.fst z_2.snd.snd).snd == (17 : Int) then
  true else (F.load z_2.fst z_2.snd.fst z_2.snd.snd).snd == (1 : Int) then Option.bind (unenc encAwk []) fun (z : Unit) => some (Ex.ret, St.mk [(10, (vB (bif bif (F.load
  z_2.fst z_2.snd.fst z_2.snd.snd).snd == (17 : Int) then true else (F.load z_2.fst z_2.snd.fst z_2.snd.snd).snd == (1 : Int) then true else false)))] []) else some (Ex.ret,
  St.mk [(10, (vB false))] []) else Option.bind (unenc stPIn1 (St.mk [(20, (vI (0 : Int))), (17, (vI (↑i : Int))), (16, (vI played)), (15, (vI last)), (14, (vI f0)), (12,
  .ptr 12 0 0), (11, .ptr 11 0 0), (4, (vI b)), (3, AV.sl (List.map eB ps)), (2, AV.sl (List.map eB ls)), (1, AV.sl (List.map eTrn ts))] [(12, Blk.mk true 0 0 [[(vB (F.load
  z_2.fst z_2.snd.fst z_2.snd.snd).fst.begun), (vI (F.load z_2.fst z_2.snd.fst z_2.snd.snd).fst.next), (vI (F.load z_2.fst z_2.snd.fst z_2.snd.snd).fst.last.target), (vI
  (F.load z_2.fst z_2.snd.fst z_2.snd.snd).fst.last.first), (vI (F.load z_2.fst z_2.snd.fst z_2.snd.snd).fst.last.breaks), AV.sl (List.map eEnt (F.load z_2.fst z_2.snd.fst
  z_2.snd.snd).fst.last.entries), (vB (F.load z_2.fst z_2.snd.fst z_2.snd.snd).fst.last.ended), AV.sl (List.map eItm (F.load z_2.fst z_2.snd.fst z_2.snd.snd).fst.queue), (vI
  (F.load z_2.fst z_2.snd.fst z_2.snd.snd).fst.lost)]]), (11, Blk.mk true 0 0 [[(vI (F.turned z.fst z.snd).target), (vI (F.turned z.fst z.snd).first), (vI (F.turned z.fst
  z.snd).breaks), AV.sl (List.map eEnt (F.turned z.fst z.snd).entries), (vB (F.turned z.fst z.snd).ended)]])])) fun (z : List Trn × List Bool × List Bool × Int × Int × Lst ×
  Cli × Int × Int × Nat × Nat) => bif decide (List.length z.snd.snd.fst ≤ (9223372036854775807 : Nat)) && decide (z.snd.snd.snd.snd.snd.snd.snd.snd.snd.snd ≤ (3 : Nat)) &&
  F.piB z.snd.snd.snd.snd.fst z.snd.snd.snd.fst z.snd.snd.snd.snd.snd.fst (z.snd.snd.snd.snd.snd.snd.fst, z.snd.snd.snd.snd.snd.snd.snd.fst,
  z.snd.snd.snd.snd.snd.snd.snd.snd.fst) && true then some (Ex.normal, St.mk [(17, (vI (IntKind.wrap IntKind.i64 ((↑z.snd.snd.snd.snd.snd.snd.snd.snd.snd.fst : Int) + (1 :
  Int))))), (16, (vI (F.plB (F.atB z.snd.snd.fst z.snd.snd.snd.snd.snd.snd.snd.snd.snd.fst) ((3 : Nat) - z.snd.snd.snd.snd.snd.snd.snd.snd.snd.snd)
  (z.snd.snd.snd.snd.snd.snd.fst, z.snd.snd.snd.snd.snd.snd.snd.fst, z.snd.snd.snd.snd.snd.snd.snd.snd.fst)).snd.snd)), (15, (vI (F.plB (F.atB z.snd.snd.fst
  z.snd.snd.snd.snd.snd.snd.snd.snd.snd.fst) ((3 : Nat) - z.snd.snd.snd.snd.snd.snd.snd.snd.snd.snd) (z.snd.snd.snd.snd.snd.snd.fst, z.snd.snd.snd.snd.snd.snd.snd.fst,
  z.snd.snd.snd.snd.snd.snd.snd.snd.fst)).snd.fst)), (14, (vI z.snd.snd.snd.snd.fst)), (12, .ptr 12 0 0), (11, .ptr 11 0 0), (4, (vI z.snd.snd.snd.fst)), (3, AV.sl (List.map
  eB z.snd.snd.fst)), (2, AV.sl (List.map eB z.snd.fst)), (1, AV.sl (List.map eTrn z.fst))] [(12, Blk.mk true 0 0 [[(vB (F.plB (F.atB z.snd.snd.fst
  z.snd.snd.snd.snd.snd.snd.snd.snd.snd.fst) ((3 : Nat) - z.snd.snd.snd.snd.snd.snd.snd.snd.snd.snd) (z.snd.snd.snd.snd.snd.snd.fst, z.snd.snd.snd.snd.snd.snd.snd.fst,
  z.snd.snd.snd.snd.snd.snd.snd.snd.fst)).fst.begun), (vI (F.plB (F.atB z.snd.snd.fst z.snd.snd.snd.snd.snd.snd.snd.snd.snd.fst) ((3 : Nat) -
  z.snd.snd.snd.snd.snd.snd.snd.snd.snd.snd) (z.snd.snd.snd.snd.snd.snd.fst, z.snd.snd.snd.snd.snd.snd.snd.fst, z.snd.snd.snd.snd.snd.snd.snd.snd.fst)).fst.next), (vI (F.plB
  (F.atB z.snd.snd.fst z.snd.snd.snd.snd.snd.snd.snd.snd.snd.fst) ((3 : Nat) - z.snd.snd.snd.snd.snd.snd.snd.snd.snd.snd) (z.snd.snd.snd.snd.snd.snd.fst,
  z.snd.snd.snd.snd.snd.snd.snd.fst, z.snd.snd.snd.snd.snd.snd.snd.snd.fst)).fst.last.target), (vI (F.plB (F.atB z.snd.snd.fst z.snd.snd.snd.snd.snd.snd.snd.snd.snd.fst) ((3
  : Nat) - z.snd.snd.snd.snd.snd.snd.snd.snd.snd.snd) (z.snd.snd.snd.snd.snd.snd.fst, z.snd.snd.snd.snd.snd.snd.snd.fst,
  z.snd.snd.snd.snd.snd.snd.snd.snd.fst)).fst.last.first), (vI (F.plB (F.atB z.snd.snd.fst z.snd.snd.snd.snd.snd.snd.snd.snd.snd.fst) ((3 : Nat) -
  z.snd.snd.snd.snd.snd.snd.snd.snd.snd.snd) (z.snd.snd.snd.snd.snd.snd.fst, z.snd.snd.snd.snd.snd.snd.snd.fst, z.snd.snd.snd.snd.snd.snd.snd.snd.fst)).fst.last.breaks),
  AV.sl (List.map eEnt (F.plB (F.atB z.snd.snd.fst z.snd.snd.snd.snd.snd.snd.snd.snd.snd.fst) ((3 : Nat) - z.snd.snd.snd.snd.snd.snd.snd.snd.snd.snd)
  (z.snd.snd.snd.snd.snd.snd.fst, z.snd.snd.snd.snd.snd.snd.snd.fst, z.snd.snd.snd.snd.snd.snd.snd.snd.fst)).fst.last.entries), (vB (F.plB (F.atB z.snd.snd.fst
  z.snd.snd.snd.snd.snd.snd.snd.snd.snd.fst) ((3 : Nat) - z.snd.snd.snd.snd.snd.snd.snd.snd.snd.snd) (z.snd.snd.snd.snd.snd.snd.fst, z.snd.snd.snd.snd.snd.snd.snd.fst,
  z.snd.snd.snd.snd.snd.snd.snd.snd.fst)).fst.last.ended), AV.sl (List.map eItm (F.plB (F.atB z.snd.snd.fst z.snd.snd.snd.snd.snd.snd.snd.snd.snd.fst) ((3 : Nat) -
  z.snd.snd.snd.snd.snd.snd.snd.snd.snd.snd) (z.snd.snd.snd.snd.snd.snd.fst, z.snd.snd.snd.snd.snd.snd.snd.fst, z.snd.snd.snd.snd.snd.snd.snd.snd.fst)).fst.queue), (vI
  (F.plB (F.atB z.snd.snd.fst z.snd.snd.snd.snd.snd.snd.snd.snd.snd.fst) ((3 : Nat) - z.snd.snd.snd.snd.snd.snd.snd.snd.snd.snd) (z.snd.snd.snd.snd.snd.snd.fst,
  z.snd.snd.snd.snd.snd.snd.snd.fst, z.snd.snd.snd.snd.snd.snd.snd.snd.fst)).fst.lost)]]), (11, Blk.mk true 0 0 [[(vI z.snd.snd.snd.snd.snd.fst.target), (vI
  z.snd.snd.snd.snd.snd.fst.first), (vI z.snd.snd.snd.snd.snd.fst.breaks), AV.sl (List.map eEnt z.snd.snd.snd.snd.snd.fst.entries), (vB z.snd.snd.snd.snd.snd.fst.ended)]])])
  else none else none else Option.bind (unenc stPIn1 (St.mk [(20, (vI (0 : Int))), (17, (vI (↑i : Int))), (16, (vI played)), (15, (vI last)), (14, (vI f0)), (12, .ptr 12 0
  0), (11, .ptr 11 0 0), (4, (vI b)), (3, AV.sl (List.map eB ps)), (2, AV.sl (List.map eB ls)), (1, AV.sl (List.map eTrn ts))] [(12, Blk.mk true 0 0 [[(vB c.begun), (vI
  c.next), (vI c.last.target), (vI c.last.first), (vI c.last.breaks), AV.sl (List.map eEnt c.last.entries), (vB c.last.ended), AV.sl (List.map eItm c.queue), (vI c.lost)]]),
  (11, Blk.mk true 0 0 [[(vI (F.turned z.fst z.snd).target), (vI (F.turned z.fst z.snd).first), (vI (F.turned z.fst z.snd).breaks), AV.sl (List.map eEnt (F.turned z.fst
  z.snd).entries), (vB (F.turned z.fst z.snd).ended)]])])) fun (z : List Trn × List Bool × List Bool × Int × Int × Lst × Cli × Int × Int × Nat × Nat) => bif decide
  (List.length z.snd.snd.fst ≤ (9223372036854775807 : Nat)) && decide (z.snd.snd.snd.snd.snd.snd.snd.snd.snd.snd ≤ (3 : Nat)) && F.piB z.snd.snd.snd.snd.fst
  z.snd.snd.snd.fst z.snd.snd.snd.snd.snd.fst (z.snd.snd.snd.snd.snd.snd.fst, z.snd.snd.snd.snd.snd.snd.snd.fst, z.snd.snd.snd.snd.snd.snd.snd.snd.fst) && true then some
  (Ex.normal, St.mk [(17, (vI (IntKind.wrap IntKind.i64 ((↑z.snd.snd.snd.snd.snd.snd.snd.snd.snd.fst : Int) + (1 : Int))))), (16, (vI (F.plB (F.atB z.snd.snd.fst
  z.snd.snd.snd.snd.snd.snd.snd.snd.snd.fst) ((3 : Nat) - z.snd.snd.snd.snd.snd.snd.snd.snd.snd.snd) (z.snd.snd.snd.snd.snd.snd.fst, z.snd.snd.snd.snd.snd.snd.snd.fst,
  z.snd.snd.snd.snd.snd.snd.snd.snd.fst)).snd.snd)), (15, (vI (F.plB (F.atB z.snd.snd.fst z.snd.snd.snd.snd.snd.snd.snd.snd.snd.fst) ((3 : Nat) -
  z.snd.snd.snd.snd.snd.snd.snd.snd.snd.snd) (z.snd.snd.snd.snd.snd.snd.fst, z.snd.snd.snd.snd.snd.snd.snd.fst, z.snd.snd.snd.snd.snd.snd.snd.snd.fst)).snd.fst)), (14, (vI
  z.snd.snd.snd.snd.fst)), (12, .ptr 12 0 0), (11, .ptr 11 0 0), (4, (vI z.snd.snd.snd.fst)), (3, AV.sl (List.map eB z.snd.snd.fst)), (2, AV.sl (List.map eB z.snd.fst)), (1,
  AV.sl (List.map eTrn z.fst))] [(12, Blk.mk true 0 0 [[(vB (F.plB (F.atB z.snd.snd.fst z.snd.snd.snd.snd.snd.snd.snd.snd.snd.fst) ((3 : Nat) -
  z.snd.snd.snd.snd.snd.snd.snd.snd.snd.snd) (z.snd.snd.snd.snd.snd.snd.fst, z.snd.snd.snd.snd.snd.snd.snd.fst, z.snd.snd.snd.snd.snd.snd.snd.snd.fst)).fst.begun), (vI
  (F.plB (F.atB z.snd.snd.fst z.snd.snd.snd.snd.snd.snd.snd.snd.snd.fst) ((3 : Nat) - z.snd.snd.snd.snd.snd.snd.snd.snd.snd.snd) (z.snd.snd.snd.snd.snd.snd.fst,
  z.snd.snd.snd.snd.snd.snd.snd.fst, z.snd.snd.snd.snd.snd.snd.snd.snd.fst)).fst.next), (vI (F.plB (F.atB z.snd.snd.fst z.snd.snd.snd.snd.snd.snd.snd.snd.snd.fst) ((3 : Nat)
  - z.snd.snd.snd.snd.snd.snd.snd.snd.snd.snd) (z.snd.snd.snd.snd.snd.snd.fst, z.snd.snd.snd.snd.snd.snd.snd.fst, z.snd.snd.snd.snd.snd.snd.snd.snd.fst)).fst.last.target),
  (vI (F.plB (F.atB z.snd.snd.fst z.snd.snd.snd.snd.snd.snd.snd.snd.snd.fst) ((3 : Nat) - z.snd.snd.snd.snd.snd.snd.snd.snd.snd.snd) (z.snd.snd.snd.snd.snd.snd.fst,
  z.snd.snd.snd.snd.snd.snd.snd.fst, z.snd.snd.snd.snd.snd.snd.snd.snd.fst)).fst.last.first), (vI (F.plB (F.atB z.snd.snd.fst z.snd.snd.snd.snd.snd.snd.snd.snd.snd.fst) ((3
  : Nat) - z.snd.snd.snd.snd.snd.snd.snd.snd.snd.snd) (z.snd.snd.snd.snd.snd.snd.fst, z.snd.snd.snd.snd.snd.snd.snd.fst,
  z.snd.snd.snd.snd.snd.snd.snd.snd.fst)).fst.last.breaks), AV.sl (List.map eEnt (F.plB (F.atB z.snd.snd.fst z.snd.snd.snd.snd.snd.snd.snd.snd.snd.fst) ((3 : Nat) -
  z.snd.snd.snd.snd.snd.snd.snd.snd.snd.snd) (z.snd.snd.snd.snd.snd.snd.fst, z.snd.snd.snd.snd.snd.snd.snd.fst, z.snd.snd.snd.snd.snd.snd.snd.snd.fst)).fst.last.entries),
  (vB (F.plB (F.atB z.snd.snd.fst z.snd.snd.snd.snd.snd.snd.snd.snd.snd.fst) ((3 : Nat) - z.snd.snd.snd.snd.snd.snd.snd.snd.snd.snd) (z.snd.snd.snd.snd.snd.snd.fst,
  z.snd.snd.snd.snd.snd.snd.snd.fst, z.snd.snd.snd.snd.snd.snd.snd.snd.fst)).fst.last.ended), AV.sl (List.map eItm (F.plB (F.atB z.snd.snd.fst
  z.snd.snd.snd.snd.snd.snd.snd.snd.snd.fst) ((3 : Nat) - z.snd.snd.snd.snd.snd.snd.snd.snd.snd.snd) (z.snd.snd.snd.snd.snd.snd.fst, z.snd.snd.snd.snd.snd.snd.snd.fst,
  z.snd.snd.snd.snd.snd.snd.snd.snd.fst)).fst.queue), (vI (F.plB (F.atB z.snd.snd.fst z.snd.snd.snd.snd.snd.snd.snd.snd.snd.fst) ((3 : Nat) -
  z.snd.snd.snd.snd.snd.snd.snd.snd.snd.snd) (z.snd.snd.snd.snd.snd.snd.fst, z.snd.snd.snd.snd.snd.snd.snd.fst, z.snd.snd.snd.snd.snd.snd.snd.snd.fst)).fst.lost)]]), (11,
  Blk.mk true 0 0 [[(vI z.snd.snd.snd.snd.snd.fst.target), (vI z.snd.snd.snd.snd.snd.fst.first), (vI z.snd.snd.snd.snd.snd.fst.breaks), AV.sl (List.map eEnt
  z.snd.snd.snd.snd.snd.fst.entries), (vB z.snd.snd.snd.snd.snd.fst.ended)]])]) else none else none else bif decide ((↑i : Int) < (↑(List.length (List.map eB ls)) : Int))
  then none else Option.bind (unenc stPIn1 (St.mk [(20, (vI (0 : Int))), (17, (vI (↑i : Int))), (16, (vI played)), (15, (vI last)), (14, (vI f0)), (12, .ptr 12 0 0), (11,
  .ptr 11 0 0), (4, (vI b)), (3, AV.sl (List.map eB ps)), (2, AV.sl (List.map eB ls)), (1, AV.sl (List.map eTrn ts))] [(12, Blk.mk true 0 0 [[(vB c.begun), (vI c.next), (vI
  c.last.target), (vI c.last.first), (vI c.last.breaks), AV.sl (List.map eEnt c.last.entries), (vB c.last.ended), AV.sl (List.map eItm c.queue), (vI c.lost)]]), (11, Blk.mk
  true 0 0 [[(vI (F.turned z.fst z.snd).target), (vI (F.turned z.fst z.snd).first), (vI (F.turned z.fst z.snd).breaks), AV.sl (List.map eEnt (F.turned z.fst z.snd).entries),
  (vB (F.turned z.fst z.snd).ended)]])])) fun (z : List Trn × List Bool × List Bool × Int × Int × Lst × Cli × Int × Int × Nat × Nat) => bif decide (List.length z.snd.snd.fst
  ≤ (9223372036854775807 : Nat)) && decide (z.snd.snd.snd.snd.snd.snd.snd.snd.snd.snd ≤ (3 : Nat)) && F.piB z.snd.snd.snd.snd.fst z.snd.snd.snd.fst z.snd.snd.snd.snd.snd.fst
  (z.snd.snd.snd.snd.snd.snd.fst, z.snd.snd.snd.snd.snd.snd.snd.fst, z.snd.snd.snd.snd.snd.snd.snd.snd.fst) && true then some (Ex.normal, St.mk [(17, (vI (IntKind.wrap
  IntKind.i64 ((↑z.snd.snd.snd.snd.snd.snd.snd.snd.snd.fst : Int) + (1 : Int))))), (16, (vI (F.plB (F.atB z.snd.snd.fst z.snd.snd.snd.snd.snd.snd.snd.snd.snd.fst) ((3 : Nat)
  - z.snd.snd.snd.snd.snd.snd.snd.snd.snd.snd) (z.snd.snd.snd.snd.snd.snd.fst, z.snd.snd.snd.snd.snd.snd.snd.fst, z.snd.snd.snd.snd.snd.snd.snd.snd.fst)).snd.snd)), (15, (vI
  (F.plB (F.atB z.snd.snd.fst z.snd.snd.snd.snd.snd.snd.snd.snd.snd.fst) ((3 : Nat) - z.snd.snd.snd.snd.snd.snd.snd.snd.snd.snd) (z.snd.snd.snd.snd.snd.snd.fst,
  z.snd.snd.snd.snd.snd.snd.snd.fst, z.snd.snd.snd.snd.snd.snd.snd.snd.fst)).snd.fst)), (14, (vI z.snd.snd.snd.snd.fst)), (12, .ptr 12 0 0), (11, .ptr 11 0 0), (4, (vI
  z.snd.snd.snd.fst)), (3, AV.sl (List.map eB z.snd.snd.fst)), (2, AV.sl (List.map eB z.snd.fst)), (1, AV.sl (List.map eTrn z.fst))] [(12, Blk.mk true 0 0 [[(vB (F.plB
  (F.atB z.snd.snd.fst z.snd.snd.snd.snd.snd.snd.snd.snd.snd.fst) ((3 : Nat) - z.snd.snd.snd.snd.snd.snd.snd.snd.snd.snd) (z.snd.snd.snd.snd.snd.snd.fst,
  z.snd.snd.snd.snd.snd.snd.snd.fst, z.snd.snd.snd.snd.snd.snd.snd.snd.fst)).fst.begun), (vI (F.plB (F.atB z.snd.snd.fst z.snd.snd.snd.snd.snd.snd.snd.snd.snd.fst) ((3 :
  Nat) - z.snd.snd.snd.snd.snd.snd.snd.snd.snd.snd) (z.snd.snd.snd.snd.snd.snd.fst, z.snd.snd.snd.snd.snd.snd.snd.fst, z.snd.snd.snd.snd.snd.snd.snd.snd.fst)).fst.next), (vI
  (F.plB (F.atB z.snd.snd.fst z.snd.snd.snd.snd.snd.snd.snd.snd.snd.fst) ((3 : Nat) - z.snd.snd.snd.snd.snd.snd.snd.snd.snd.snd) (z.snd.snd.snd.snd.snd.snd.fst,
  z.snd.snd.snd.snd.snd.snd.snd.fst, z.snd.snd.snd.snd.snd.snd.snd.snd.fst)).fst.last.target), (vI (F.plB (F.atB z.snd.snd.fst z.snd.snd.snd.snd.snd.snd.snd.snd.snd.fst) ((3
  : Nat) - z.snd.snd.snd.snd.snd.snd.snd.snd.snd.snd) (z.snd.snd.snd.snd.snd.snd.fst, z.snd.snd.snd.snd.snd.snd.snd.fst,
  z.snd.snd.snd.snd.snd.snd.snd.snd.fst)).fst.last.first), (vI (F.plB (F.atB z.snd.snd.fst z.snd.snd.snd.snd.snd.snd.snd.snd.snd.fst) ((3 : Nat) -
  z.snd.snd.snd.snd.snd.snd.snd.snd.snd.snd) (z.snd.snd.snd.snd.snd.snd.fst, z.snd.snd.snd.snd.snd.snd.snd.fst, z.snd.snd.snd.snd.snd.snd.snd.snd.fst)).fst.last.breaks),
  AV.sl (List.map eEnt (F.plB (F.atB z.snd.snd.fst z.snd.snd.snd.snd.snd.snd.snd.snd.snd.fst) ((3 : Nat) - z.snd.snd.snd.snd.snd.snd.snd.snd.snd.snd)
  (z.snd.snd.snd.snd.snd.snd.fst, z.snd.snd.snd.snd.snd.snd.snd.fst, z.snd.snd.snd.snd.snd.snd.snd.snd.fst)).fst.last.entries), (vB (F.plB (F.atB z.snd.snd.fst
  z.snd.snd.snd.snd.snd.snd.snd.snd.snd.fst) ((3 : Nat) - z.snd.snd.snd.snd.snd.snd.snd.snd.snd.snd) (z.snd.snd.snd.snd.snd.snd.fst, z.snd.snd.snd.snd.snd.snd.snd.fst,
  z.snd.snd.snd.snd.snd.snd.snd.snd.fst)).fst.last.ended), AV.sl (List.map eItm (F.plB (F.atB z.snd.snd.fst z.snd.snd.snd.snd.snd.snd.snd.snd.snd.fst) ((3 : Nat) -
  z.snd.snd.snd.snd.snd.snd.snd.snd.snd.snd) (z.snd.snd.snd.snd.snd.snd.fst, z.snd.snd.snd.snd.snd.snd.snd.fst, z.snd.snd.snd.snd.snd.snd.snd.snd.fst)).fst.queue), (vI
  (F.plB (F.atB z.snd.snd.fst z.snd.snd.snd.snd.snd.snd.snd.snd.snd.fst) ((3 : Nat) - z.snd.snd.snd.snd.snd.snd.snd.snd.snd.snd) (z.snd.snd.snd.snd.snd.snd.fst,
  z.snd.snd.snd.snd.snd.snd.snd.fst, z.snd.snd.snd.snd.snd.snd.snd.snd.fst)).fst.lost)]]), (11, Blk.mk true 0 0 [[(vI z.snd.snd.snd.snd.snd.fst.target), (vI
  z.snd.snd.snd.snd.snd.fst.first), (vI z.snd.snd.snd.snd.snd.fst.breaks), AV.sl (List.map eEnt z.snd.snd.snd.snd.snd.fst.entries), (vB z.snd.snd.snd.snd.snd.fst.ended)]])])
  else none else none else none else some (Ex.exit (0 : Nat), St.mk [(16, (vI played)), (14, (vI f0)), (12, .ptr 12 0 0)] [(12, Blk.mk true 0 0 [[(vB c.begun), (vI c.next),
  (vI c.last.target), (vI c.last.first), (vI c.last.breaks), AV.sl (List.map eEnt c.last.entries), (vB c.last.ended), AV.sl (List.map eItm c.queue), (vI c.lost)]])]) := by kernel_rfl

theorem lpPOu_ok (ts : List Trn) (ls : List Bool) (ps : List Bool) (b : Int) (f0 : Int) (now : Lst) (c : Cli) (last : Int) (played : Int) (i : Nat) (hp : prlPOu ts ls ps b f0 now c last played i = true) : ∀ ex s', (outPOu ts ls ps b f0 now c last played i).val = some (ex, s') → LoopOK enPOu (loopN Try.f10 0) (stPOu ts ls ps b f0 now c last played i) ex s' := by
  simp only [prlPOu, Bool.and_eq_true, decide_eq_true_eq] at hp
  obtain ⟨⟨⟨⟨⟨h1, h2⟩, h3⟩, h4⟩, h5⟩, h6⟩ := hp
  have hpl : decide (ps.length ≤ 9223372036854775807) = true := decide_eq_true h3
  refine loop_gen (st := fun a : (Lst × Cli × Int × Int) × Nat => stPOu ts ls ps b f0 a.1.1 a.1.2.1 a.1.2.2.1 a.1.2.2.2 a.2) (out := fun a => outPOu ts ls ps b f0 a.1.1 a.1.2.1 a.1.2.2.1 a.1.2.2.2 a.2) (I := fun a => a.2 ≤ ts.length ∧ F.PI f0 b a.1.1 a.1.2) (n := ([17, 16, 15, 14, 12, 11, 4, 3, 2, 1], [12, 11])) (e := ([16, 14, 12], [12])) (r := ([10], [])) (fun a => ts.length - a.2) ?_ ((now, c, last, played), i) ⟨h4, F.piB_iff.1 h6⟩
  rintro ⟨⟨now, c, last, played⟩, i⟩ ⟨hk, hP⟩
  simp only at hk hP
  by_cases hlt : i < ts.length
  · have hy : ts[i]? = some ts[i] := List.getElem?_eq_getElem hlt
    generalize ts[i] = y at hy
    have hd := drop_at hy
    have hy16 : decide (y.entry.extra.length * 16 ≤ 140737488355328) = true := List.all_eq_true.1 h5 y (List.mem_of_getElem? hy)
    have hat : ∀ x, F.atB ls i = x → ls.getD i false = x := fun x h => h
    have hP' := hP.turned y
    have hcok := hP'.cok
    simp only at hcok
    rcases F.cpS_ok (a := (now, c, last, played)) (ls := ls) (ps := ps) (k := i) (t := y) hP with ⟨q1, q2, q3⟩ | ⟨q1, q2, q3⟩
    · left
      refine ⟨(.ret, ⟨[(10, vB true)], []⟩), ?_, ?_, by simp, rfl⟩
      · have hi := F.atB_lt q2
        simp only [q2, F.ldB, cond_true] at q1
        rw [evPOuL]
        simp only [unLod, unTrd, unPly, unAwk, unLodw, unTrdw, preLod1, preTrd1, prePly1, preAwk1, unstPOu, unstPIn, unstPOu0, unstPIn0, prlPOu, prlPIn, outPOu, outPIn, etaEnt, etaLst, Option.bind_some, List.length_map, unStrs, unInts, unBools, unEnts, unItms, unTrns, cond_true, cond_false, Bool.and_true, Bool.true_and, cast_lt hlt, decide_eq_true hlt, next_at hlt h1, getD_at hy, stPOu, hy16, cast_lt hi, decide_eq_true hi, hat _ q2, hcok, q1]
        rfl
      · simp only [outPOu, hd, F.cpr, q3]
        rfl
    · right
      refine ⟨((F.turned now y, F.plB (F.atB ps i) 3 ((F.ldB (F.atB ls i) c (F.turned now y) b).1, last, played)), i + 1), ?_, rfl, ⟨by simp only; omega, q2.plB _ _⟩, by simp only; omega, ?_⟩
      · have hpi := F.piB_iff.2 q2
        simp only at q1 hpi
        cases ql : F.atB ls i
        · simp only [ql, F.ldB, cond_false] at q1 hpi ⊢
          rw [evPOuL]
          by_cases hi : i < ls.length
          · simp only [unLod, unTrd, unPly, unAwk, unLodw, unTrdw, preLod1, preTrd1, prePly1, preAwk1, unstPOu, unstPIn, unstPOu0, unstPIn0, prlPOu, prlPIn, outPOu, outPIn, etaEnt, etaLst, Option.bind_some, List.length_map, unStrs, unInts, unBools, unEnts, unItms, unTrns, cond_true, cond_false, Bool.and_true, Bool.true_and, cast_lt hlt, decide_eq_true hlt, next_at hlt h1, getD_at hy, stPOu, hy16, cast_lt hi, decide_eq_true hi, hat _ ql, hpi, hpl, q1]
            rfl
          · have hi' : decide ((i : Int) < (ls.length : Int)) = false := decide_eq_false (by omega)
            simp only [unLod, unTrd, unPly, unAwk, unLodw, unTrdw, preLod1, preTrd1, prePly1, preAwk1, unstPOu, unstPIn, unstPOu0, unstPIn0, prlPOu, prlPIn, outPOu, outPIn, etaEnt, etaLst, Option.bind_some, List.length_map, unStrs, unInts, unBools, unEnts, unItms, unTrns, cond_true, cond_false, Bool.and_true, Bool.true_and, cast_lt hlt, decide_eq_true hlt, next_at hlt h1, getD_at hy, stPOu, hy16, hi', hpi, hpl, q1]
            rfl
        · have hi := F.atB_lt ql
          simp only [ql, F.ldB, cond_true] at q1 hpi ⊢
          rw [evPOuL]
          simp only [unLod, unTrd, unPly, unAwk, unLodw, unTrdw, preLod1, preTrd1, prePly1, preAwk1, unstPOu, unstPIn, unstPOu0, unstPIn0, prlPOu, prlPIn, outPOu, outPIn, etaEnt, etaLst, Option.bind_some, List.length_map, unStrs, unInts, unBools, unEnts, unItms, unTrns, cond_true, cond_false, Bool.and_true, Bool.true_and, cast_lt hlt, decide_eq_true hlt, next_at hlt h1, getD_at hy, stPOu, hy16, cast_lt hi, decide_eq_true hi, hat _ ql, hcok, hpi, hpl, q1]
          rfl
      · simp only [outPOu, hd, F.cpr, q3]
  · have : i = ts.length := by omega
    subst this
    left
    refine ⟨(.exit 0, ⟨[(16, vI played), (14, vI f0), (12, .ptr 12 0 0)], [(12, ⟨true, 0, 0, [eCli c]⟩)]⟩), ?_, ?_, by simp, rfl⟩
    · rw [evPOuL]; simp
      rfl
    · simp [outPOu, F.cpr, F.found, F.got, T.val]

theorem evPOu (l : Lst) (ts : List Trn) (ls : List Bool) (ps : List Bool) (b : Int) : (runF enPOu false Try.f10 [.agg (eLst l), .sl (ts.map eTrn), .sl (ls.map eB), .sl (ps.map eB), vI b]).val =
  Option.bind (unenc encLod [AV.agg [(vB false), (vI (0 : Int)), (vI (0 : Int)), (vI (0 : Int)), (vI (0 : Int)), AV.sl [], (vB false), AV.sl [], (vI (0 : Int))], AV.agg [(vI
  l.target), (vI l.first), (vI l.breaks), AV.sl (List.map eEnt l.entries), (vB l.ended)], (vI b)]) fun (z : Cli × Lst × Int) => bif F.cOK z.fst then bif (F.load z.fst
  z.snd.fst z.snd.snd).snd != (0 : Int) then bif !(F.load z.fst z.snd.fst z.snd.snd).fst.begun then Option.bind (unenc encAwk []) fun (z_1 : Unit) => some ((vB (bif !(F.load
  z.fst z.snd.fst z.snd.snd).fst.begun then true else false)), []) else some ((vB false), []) else Option.bind (unenc stPOu1 (St.mk [(17, (vI (0 : Int))), (16, (vI (0 :
  Int))), (15, (vI (IntKind.wrap IntKind.i64 (IntKind.wrap IntKind.i64 ((F.load z.fst z.snd.fst z.snd.snd).fst.next - (↑(List.length (List.map eItm (F.load z.fst z.snd.fst
  z.snd.snd).fst.queue)) : Int)) - (1 : Int))))), (14, (vI (IntKind.wrap IntKind.i64 ((F.load z.fst z.snd.fst z.snd.snd).fst.next - (↑(List.length (List.map eItm (F.load
  z.fst z.snd.fst z.snd.snd).fst.queue)) : Int))))), (12, .ptr 12 0 0), (11, .ptr 11 0 0), (4, (vI b)), (3, AV.sl (List.map eB ps)), (2, AV.sl (List.map eB ls)), (1, AV.sl
  (List.map eTrn ts))] [(12, Blk.mk true 0 0 [[(vB (F.load z.fst z.snd.fst z.snd.snd).fst.begun), (vI (F.load z.fst z.snd.fst z.snd.snd).fst.next), (vI (F.load z.fst
  z.snd.fst z.snd.snd).fst.last.target), (vI (F.load z.fst z.snd.fst z.snd.snd).fst.last.first), (vI (F.load z.fst z.snd.fst z.snd.snd).fst.last.breaks), AV.sl (List.map
  eEnt (F.load z.fst z.snd.fst z.snd.snd).fst.last.entries), (vB (F.load z.fst z.snd.fst z.snd.snd).fst.last.ended), AV.sl (List.map eItm (F.load z.fst z.snd.fst
  z.snd.snd).fst.queue), (vI (F.load z.fst z.snd.fst z.snd.snd).fst.lost)]]), (11, Blk.mk true 0 0 [[(vI l.target), (vI l.first), (vI l.breaks), AV.sl (List.map eEnt
  l.entries), (vB l.ended)]])])) fun (z : List Trn × List Bool × List Bool × Int × Int × Lst × Cli × Int × Int × Nat) => bif decide (List.length z.fst ≤ (9223372036854775807
  : Nat)) && decide (List.length z.snd.fst ≤ (9223372036854775807 : Nat)) && decide (List.length z.snd.snd.fst ≤ (9223372036854775807 : Nat)) && decide
  (z.snd.snd.snd.snd.snd.snd.snd.snd.snd ≤ List.length z.fst) && F.tOK z.fst && F.piB z.snd.snd.snd.snd.fst z.snd.snd.snd.fst z.snd.snd.snd.snd.snd.fst
  (z.snd.snd.snd.snd.snd.snd.fst, z.snd.snd.snd.snd.snd.snd.snd.fst, z.snd.snd.snd.snd.snd.snd.snd.snd.fst) && true then bif F.found (F.cpr z.snd.fst z.snd.snd.fst
  z.snd.snd.snd.fst (z.snd.snd.snd.snd.snd.fst, z.snd.snd.snd.snd.snd.snd.fst, z.snd.snd.snd.snd.snd.snd.snd.fst, z.snd.snd.snd.snd.snd.snd.snd.snd.fst)
  z.snd.snd.snd.snd.snd.snd.snd.snd.snd (List.drop z.snd.snd.snd.snd.snd.snd.snd.snd.snd z.fst)) then bif IntKind.wrap IntKind.i64 (IntKind.wrap IntKind.i64 (IntKind.wrap
  IntKind.i64 (z.snd.snd.snd.snd.fst + (F.got (F.cpr z.snd.fst z.snd.snd.fst z.snd.snd.snd.fst (z.snd.snd.snd.snd.snd.fst, z.snd.snd.snd.snd.snd.snd.fst,
  z.snd.snd.snd.snd.snd.snd.snd.fst, z.snd.snd.snd.snd.snd.snd.snd.snd.fst) z.snd.snd.snd.snd.snd.snd.snd.snd.snd (List.drop z.snd.snd.snd.snd.snd.snd.snd.snd.snd z.fst))
  F.a0).snd.snd.snd) + (↑(List.length (List.map eItm (F.got (F.cpr z.snd.fst z.snd.snd.fst z.snd.snd.snd.fst (z.snd.snd.snd.snd.snd.fst, z.snd.snd.snd.snd.snd.snd.fst,
  z.snd.snd.snd.snd.snd.snd.snd.fst, z.snd.snd.snd.snd.snd.snd.snd.snd.fst) z.snd.snd.snd.snd.snd.snd.snd.snd.snd (List.drop z.snd.snd.snd.snd.snd.snd.snd.snd.snd z.fst))
  F.a0).snd.fst.queue)) : Int)) + (F.got (F.cpr z.snd.fst z.snd.snd.fst z.snd.snd.snd.fst (z.snd.snd.snd.snd.snd.fst, z.snd.snd.snd.snd.snd.snd.fst,
  z.snd.snd.snd.snd.snd.snd.snd.fst, z.snd.snd.snd.snd.snd.snd.snd.snd.fst) z.snd.snd.snd.snd.snd.snd.snd.snd.snd (List.drop z.snd.snd.snd.snd.snd.snd.snd.snd.snd z.fst))
  F.a0).snd.fst.lost) == (F.got (F.cpr z.snd.fst z.snd.snd.fst z.snd.snd.snd.fst (z.snd.snd.snd.snd.snd.fst, z.snd.snd.snd.snd.snd.snd.fst,
  z.snd.snd.snd.snd.snd.snd.snd.fst, z.snd.snd.snd.snd.snd.snd.snd.snd.fst) z.snd.snd.snd.snd.snd.snd.snd.snd.snd (List.drop z.snd.snd.snd.snd.snd.snd.snd.snd.snd z.fst))
  F.a0).snd.fst.next then Option.bind (unenc encAwk []) fun (z_1 : Unit) => some ((vB (bif IntKind.wrap IntKind.i64 (IntKind.wrap IntKind.i64 (IntKind.wrap IntKind.i64
  (z.snd.snd.snd.snd.fst + (F.got (F.cpr z.snd.fst z.snd.snd.fst z.snd.snd.snd.fst (z.snd.snd.snd.snd.snd.fst, z.snd.snd.snd.snd.snd.snd.fst,
  z.snd.snd.snd.snd.snd.snd.snd.fst, z.snd.snd.snd.snd.snd.snd.snd.snd.fst) z.snd.snd.snd.snd.snd.snd.snd.snd.snd (List.drop z.snd.snd.snd.snd.snd.snd.snd.snd.snd z.fst))
  F.a0).snd.snd.snd) + (↑(List.length (List.map eItm (F.got (F.cpr z.snd.fst z.snd.snd.fst z.snd.snd.snd.fst (z.snd.snd.snd.snd.snd.fst, z.snd.snd.snd.snd.snd.snd.fst,
  z.snd.snd.snd.snd.snd.snd.snd.fst, z.snd.snd.snd.snd.snd.snd.snd.snd.fst) z.snd.snd.snd.snd.snd.snd.snd.snd.snd (List.drop z.snd.snd.snd.snd.snd.snd.snd.snd.snd z.fst))
  F.a0).snd.fst.queue)) : Int)) + (F.got (F.cpr z.snd.fst z.snd.snd.fst z.snd.snd.snd.fst (z.snd.snd.snd.snd.snd.fst, z.snd.snd.snd.snd.snd.snd.fst,
  z.snd.snd.snd.snd.snd.snd.snd.fst, z.snd.snd.snd.snd.snd.snd.snd.snd.fst) z.snd.snd.snd.snd.snd.snd.snd.snd.snd (List.drop z.snd.snd.snd.snd.snd.snd.snd.snd.snd z.fst))
  F.a0).snd.fst.lost) == (F.got (F.cpr z.snd.fst z.snd.snd.fst z.snd.snd.snd.fst (z.snd.snd.snd.snd.snd.fst, z.snd.snd.snd.snd.snd.snd.fst,
  z.snd.snd.snd.snd.snd.snd.snd.fst, z.snd.snd.snd.snd.snd.snd.snd.snd.fst) z.snd.snd.snd.snd.snd.snd.snd.snd.snd (List.drop z.snd.snd.snd.snd.snd.snd.snd.snd.snd z.fst))
  F.a0).snd.fst.next then true else false)), []) else some ((vB false), []) else some ((vB true), []) else none else none := by kernel_rfl

def encPOu1 (l : Lst) (ts : List Trn) (ls : List Bool) (ps : List Bool) (b : Int) : List AV := [.agg (eLst l), .sl (ts.map eTrn), .sl (ls.map eB), .sl (ps.map eB), vI b]

def encPOu (a : Lst × (List Trn) × (List Bool) × (List Bool) × Int) : List AV := encPOu1 a.1 a.2.1 a.2.2.1 a.2.2.2.1 a.2.2.2.2

theorem encPOu_inj (a a' : Lst × (List Trn) × (List Bool) × (List Bool) × Int) (h : encPOu a = encPOu a') : a = a' := by
  simp only [encPOu, encPOu1] at h
  try simp [strs_inj, ents_inj, eEnt_iff, eLst_iff, ints_inj, eTrn_iff, itms_inj, eCli_iff, eItm_iff, trns_inj, bools_inj] at h
  grind

theorem unPOu (l : Lst) (ts : List Trn) (ls : List Bool) (ps : List Bool) (b : Int) : unenc encPOu ([AV.agg [(vI l.target), (vI l.first), (vI l.breaks), AV.sl (List.map eEnt l.entries), (vB l.ended)], AV.sl (List.map eTrn ts), AV.sl (List.map eB ls), AV.sl (List.map eB
  ps), (vI b)]) = some (l, ts, ls, ps, b) := unenc_of encPOu_inj (l, ts, ls, ps, b) rfl

theorem unPOuw (l_target : Int) (l_first : Int) (l_breaks : Int) (l_entries : List Ent) (l_ended : Bool) (ts : List Trn) (ls : List Bool) (ps : List Bool) (b : Int) : unenc encPOu ([AV.agg [(vI l_target), (vI l_first), (vI l_breaks), AV.sl (List.map eEnt l_entries), (vB l_ended)], AV.sl (List.map eTrn ts), AV.sl (List.map eB ls), AV.sl (List.map eB
  ps), (vI b)]) = some ((Lst.mk l_target l_first l_breaks l_entries l_ended), ts, ls, ps, b) := unenc_of encPOu_inj ((Lst.mk l_target l_first l_breaks l_entries l_ended), ts, ls, ps, b) rfl

def resPOu1 (l : Lst) (ts : List Trn) (ls : List Bool) (ps : List Bool) (b : Int) : AV × Heap := (vB true, [])

def prePOu1 (l : Lst) (ts : List Trn) (ls : List Bool) (ps : List Bool) (b : Int) : Bool := F.tOK ts

noncomputable def oPOu : Orc := orc 10 true encPOu (fun a => prePOu1 a.1 a.2.1 a.2.2.1 a.2.2.2.1 a.2.2.2.2) fun a => resPOu1 a.1 a.2.1 a.2.2.1 a.2.2.2.1 a.2.2.2.2

theorem okPOu : OrcOK Try.prog noG oPOu := by
  refine mk_ok Try.f10 (keep := false) (by kernel_rfl) (by kernel_rfl) enPOu_ok mixed (two_loops (x0 := loopN Try.f10 0) (x1 := loopN Try.f10 1) (by kernel_rfl) (lpo_ok ?_) (lpo_ok ?_)) (by first | exact fun _ _ => ⟨rfl, rfl⟩ | (intro h; cases h)) ?_
  · rintro ⟨ts, ls, ps, b, f0, now, c, last, played, i⟩ hp
    exact lpPOu_ok ts ls ps b f0 now c last played i hp
  · rintro ⟨ts, ls, ps, b, f0, now, c, last, played, i, k⟩ hp
    exact lpPIn_ok ts ls ps b f0 now c last played i k hp
  rintro ⟨l, ts, ls, ps, b⟩ hpre hok
  show (runF enPOu false _ (encPOu1 _ _ _ _ _)).val = some (resPOu1 _ _ _ _ _)
  unfold encPOu1 resPOu1
  rw [evPOu]
  simp only [prePOu1] at hpre
  simp only [encPOu, encPOu1, List.forall_mem_cons] at hok
  have hx1 : ts.length ≤ 9223372036854775807 := by simpa using (okA_sl hok.2.1).1
  have hx2 : ls.length ≤ 9223372036854775807 := by simpa using (okA_sl hok.2.2.1).1
  have hx3 : ps.length ≤ 9223372036854775807 := by simpa using (okA_sl hok.2.2.2.1).1
  have hu : unenc encLod [.agg [.v (.bool false), .v (.int .i64 0), .v (.int .i64 0), .v (.int .i64 0), .v (.int .i64 0), .sl [], .v (.bool false), .sl [], .v (.int .i64 0)], .agg [.v (.int .i64 l.target), .v (.int .i64 l.first), .v (.int .i64 l.breaks), .sl (l.entries.map eEnt), .v (.bool l.ended)], .v (.int .i64 b)] = some (F.noC, l, b) := unenc_of encLod_inj (F.noC, l, b) rfl
  have hcn : F.cOK F.noC = true := rfl
  rw [hu]
  simp only [unLod, unTrd, unPly, unAwk, unLodw, unTrdw, preLod1, preTrd1, prePly1, preAwk1, unstPOu, unstPIn, unstPOu0, unstPIn0, prlPOu, prlPIn, outPOu, outPIn, etaEnt, etaLst, Option.bind_some, List.length_map, unStrs, unInts, unBools, unEnts, unItms, unTrns, cond_true, cond_false, Bool.and_true, Bool.true_and, hcn, hx1, hx2, hx3, hpre, List.drop_zero, Nat.zero_le, decide_true, Bool.and_true, Bool.true_and]
  cases hl : (F.load F.noC l b).2 != 0
  · have hl0 : (F.load F.noC l b).2 = 0 := by simpa using hl
    obtain ⟨e1, hP⟩ := F.PI.start hl0
    rw [← e1] at hP
    simp only [← e1]
    rw [F.piB_iff.2 hP]
    simp only [cond_true, cond_false]
    generalize hX : (F.load F.noC l b).1.next - ((F.load F.noC l b).1.queue.length : Int) = X at hP
    generalize hC : (F.load F.noC l b).1 = C at hP
    cases hf : F.cpr ls ps b (l, C, IntKind.i64.wrap (X - 1), 0) 0 ts with
    | none => rfl
    | some a =>
      have hQ := F.cpr_ok hP hf
      have h1 := hQ.rng
      have h2 := hQ.nn
      have h3 := hQ.sum
      have h4 := hQ.ql
      simp only [F.found, F.got, Option.isSome_some, Option.getD_some, cond_true]
      rw [wrap_id (n := X + a.2.2.2) (by omega) (by omega), wrap_id (n := X + a.2.2.2 + a.2.1.queue.length) (by omega) (by omega), wrap_id (n := X + a.2.2.2 + a.2.1.queue.length + a.2.1.lost) (by omega) (by omega)]
      have h5 : (X + a.2.2.2 + (a.2.1.queue.length : Int) + a.2.1.lost == a.2.1.next) = true := by rw [h3]; simp
      rw [h5]
      rfl
  · rw [F.load_bad hl]
    rfl

end M
end Go.Proofs.Ytkfhfjcgegimbaa
