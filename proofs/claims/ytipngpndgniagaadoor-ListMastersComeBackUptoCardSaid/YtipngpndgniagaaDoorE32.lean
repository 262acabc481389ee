/- What is proved here: what the checks of sounds, streams and lists of all renditions return on plain data, of the program (no statement of the seat). -/
import Derived.Test.YtipngpndgniagaaDoorE31
import Derived.Test.YtipngpndgniagaaDoorM8
import Derived.Test.YtipngpndgniagaaDoorShelf
namespace Go.Proofs.YtipngpndgniagaaDoor
open Go Go.RowKit
set_option linter.unusedVariables false
set_option linter.unusedSimpArgs false

def F.found {α : Type} (o : Option α) : Bool := o.isSome

def F.got {α : Type} (o : Option α) (d : α) : α := o.getD d

/-- The number of the first of a list that is asked for. -/
def F.findI {α : Type} (p : α → Bool) (k : Nat) : List α → Option Nat
  | [] => none
  | y :: l => bif p y then some k else F.findI p (k + 1) l

def F.idxI (o : Option Nat) : Int := bif F.found o then ((F.got o 0 : Nat) : Int) else -1

theorem F.idx_any {α : Type} (p : α → Bool) (k : Nat) (l : List α) : decide (0 ≤ F.idxI (F.findI p k l)) = l.any p := by
  have h : F.found (F.findI p k l) = l.any p := by
    induction l generalizing k with
    | nil => rfl
    | cons y l ih =>
      simp only [F.findI, List.any_cons]
      cases p y
      · simp only [cond_false, Bool.false_or]; exact ih (k + 1)
      · rfl
  unfold F.idxI
  rw [h]
  cases l.any p
  · rfl
  · simp only [cond_true]; exact decide_eq_true (by omega)

/-- The fault of a sound behind others. -/
def F.sndF (s : Snd) (l : List Snd) : Int :=
  bif !F.isName s.group || !F.isName s.name then 5 else bif l.any (F.sndTw s) then 7 else bif !F.lang s.lang then 3 else bif s.dflt && l.any (F.sndDf s) then 12 else F.uriFault s.uri

def F.nonE (s : ByteArray) : Bool := !F.seq s ⟨#[]⟩

/-- The fault of a stream behind others. -/
def F.strmF (s : Strm) (l : List Strm) (m : List Snd) : Int :=
  bif !F.isName s.name then 5 else bif l.any (fun o => F.seq o.name s.name) then 7 else bif F.uriFault s.uri != 0 then 3 else
  bif F.out s.mean 1 10000000000 || F.out s.peak s.mean 10000000000 then 1 else bif F.out s.width 0 20000 || F.out s.height 0 20000 || ((s.width == 0) != (s.height == 0)) then 1 else
  bif F.nonE s.sound && !m.any (fun o => F.seq o.group s.sound) then 5 else 0

namespace M


theorem drop_at {α : Type} {xs : List α} {k : Nat} {y : α} (h : xs[k]? = some y) : xs.drop k = y :: xs.drop (k + 1) := by
  have hlt := lt_at h
  rw [List.drop_eq_getElem_cons hlt]
  congr 1
  exact (List.getElem?_eq_some_iff.1 h).2

def stI1 (l : List Snd) (s : Snd) (k : Nat) : St := ⟨[(8, vI k), (7, vI l.length), (1, .fn 53 [.pel (eSnd s) 0]), (0, .sl (l.map eSnd))], []⟩

def stI11 (a : (List Snd) × Snd × Nat) : St := stI1 a.1 a.2.1 a.2.2

theorem stI1_inj (a a' : (List Snd) × Snd × Nat) (h : stI11 a = stI11 a') : a = a' := by
  simp only [stI11, stI1] at h
  try simp [strs_inj, ents_inj, eEnt_iff, eLst_iff, eSnds_inj, eSnd_iff, eStrms_inj, eStrm_iff, eMas_iff] at h
  grind

theorem unstI1 (l : List Snd) (s : Snd) (k : Nat) : unenc stI11 (St.mk [(8, (vI (↑k : Int))), (7, (vI (↑(List.length l) : Int))), (1, AV.fn (53 : FuncId) [AV.pel [(vS s.group), (vS s.name), (vS s.lang), (vB s.dflt), (vS s.uri)] (0 :
  Nat)]), (0, AV.sl (List.map eSnd l))] []) = some (l, s, k) := unenc_of stI1_inj (l, s, k) rfl

theorem unstI10 (l : List Snd) (s : Snd)  : unenc stI11 (St.mk [(8, (vI (0 : Int))), (7, (vI (↑(List.length l) : Int))), (1, AV.fn (53 : FuncId) [AV.pel [(vS s.group), (vS s.name), (vS s.lang), (vB s.dflt), (vS s.uri)] (0 :
  Nat)]), (0, AV.sl (List.map eSnd l))] []) = some (l, s, 0) := unenc_of stI1_inj (l, s, 0) rfl

def outI1 (l : List Snd) (s : Snd) (k : Nat) : T (Ex × St) := .ifB (F.found (F.findI (F.sndTw s) k (l.drop k))) (.ret (.ret, ⟨[(4, vI ((F.got (F.findI (F.sndTw s) k (l.drop k)) 0 : Nat) : Int))], []⟩)) (.ret (.exit 0, ⟨[], []⟩))

noncomputable def prlI1 (l : List Snd) (s : Snd) (k : Nat) : Bool := decide (l.length ≤ 9223372036854775807) && decide (k ≤ l.length)

noncomputable def lpI1 : Nat × (St → T (Ex × St)) := (2, lpo [8, 7, 1, 0] [] stI11 (fun a => prlI1 a.1 a.2.1 a.2.2) fun a => outI1 a.1 a.2.1 a.2.2)

noncomputable def enI1 : Env := envH ty noG lksS [oCl1] [] [] [lpI1]

theorem enI1_ok : EnvOK Tryd.prog enI1 := by
  refine envH_ok lksS_ok ty_ok ?_ ?_
  · simp only [List.forall_mem_cons]
    exact ⟨okCl1, by simp⟩
  · simp

theorem evI1L (l : List Snd) (s : Snd) (k : Nat) : ((exec enI1 (loopN Tryd.f77 0) (stI1 l s k)).bind (lessX ([8, 7, 1, 0], []) ([], []) ([4], []))).val =
  bif decide ((↑k : Int) < (↑(List.length l) : Int)) then Option.bind (unenc (List.map eSnd) (List.map eSnd l)) fun (z : List Snd) => bif decide (k < List.length z) then
  Option.bind (unenc encCl1 [AV.agg [(vS (List.getD z k (Snd.mk (ByteArray.mk (Array.mk [])) (ByteArray.mk (Array.mk [])) (ByteArray.mk (Array.mk [])) false (ByteArray.mk
  (Array.mk [])))).group), (vS (List.getD z k (Snd.mk (ByteArray.mk (Array.mk [])) (ByteArray.mk (Array.mk [])) (ByteArray.mk (Array.mk [])) false (ByteArray.mk (Array.mk
  [])))).name), (vS (List.getD z k (Snd.mk (ByteArray.mk (Array.mk [])) (ByteArray.mk (Array.mk [])) (ByteArray.mk (Array.mk [])) false (ByteArray.mk (Array.mk [])))).lang),
  (vB (List.getD z k (Snd.mk (ByteArray.mk (Array.mk [])) (ByteArray.mk (Array.mk [])) (ByteArray.mk (Array.mk [])) false (ByteArray.mk (Array.mk [])))).dflt), (vS
  (List.getD z k (Snd.mk (ByteArray.mk (Array.mk [])) (ByteArray.mk (Array.mk [])) (ByteArray.mk (Array.mk [])) false (ByteArray.mk (Array.mk [])))).uri)], AV.pel [(vS
  s.group), (vS s.name), (vS s.lang), (vB s.dflt), (vS s.uri)] (0 : Nat)]) fun (z : Snd × Snd) => bif F.sndTw z.snd z.fst then some (Ex.ret, St.mk [(4, (vI (↑k : Int)))] [])
  else some (Ex.normal, St.mk [(8, (vI (IntKind.wrap IntKind.i64 ((↑k : Int) + (1 : Int))))), (7, (vI (↑(List.length l) : Int))), (1, AV.fn (53 : FuncId) [AV.pel [(vS
  s.group), (vS s.name), (vS s.lang), (vB s.dflt), (vS s.uri)] (0 : Nat)]), (0, AV.sl (List.map eSnd l))] []) else none else some (Ex.exit (0 : Nat), St.mk [] []) := by kernel_rfl

theorem lpI1_ok (l : List Snd) (s : Snd) (k : Nat) (hp : prlI1 l s k = true) : ∀ ex s', (outI1 l s k).val = some (ex, s') → LoopOK enI1 (loopN Tryd.f77 0) (stI1 l s k) ex s' := by
  simp only [prlI1, Bool.and_eq_true, decide_eq_true_eq] at hp
  refine loop_gen (st := stI1 l s) (out := outI1 l s) (I := fun k => k ≤ l.length) (n := ([8, 7, 1, 0], [])) (e := ([], [])) (r := ([4], [])) (fun k => l.length - k) ?_ k hp.2
  intro k hk
  by_cases hlt : k < l.length
  · have hy : l[k]? = some l[k] := List.getElem?_eq_getElem hlt
    generalize l[k] = y at hy
    have hd := drop_at hy
    cases hc : (F.sndTw s) y
    · right
      refine ⟨k + 1, ?_, rfl, hlt, by omega, ?_⟩
      · rw [evI1L]
        simp only [unCl1, unCl1w, preCl11, unstI1, unstI10, prlI1, outI1, etaEnt, etaLst, etaSnd, etaStrm, etaMas, Option.bind_some, List.length_map, unStrs, unInts, unBools, unEnts, unItms, unTrns, cond_true, cond_false, Bool.and_true, Bool.true_and, unSnds, unStrms, cast_lt hlt, decide_eq_true hlt, next_at hlt hp.1, getD_at hy, hc, stI1]
        try rfl
      · simp only [outI1, hd, F.findI, hc, cond_false]
    · left
      refine ⟨(.ret, ⟨[(4, vI k)], []⟩), ?_, ?_, by simp, rfl⟩
      · rw [evI1L]
        simp only [unCl1, unCl1w, preCl11, unstI1, unstI10, prlI1, outI1, etaEnt, etaLst, etaSnd, etaStrm, etaMas, Option.bind_some, List.length_map, unStrs, unInts, unBools, unEnts, unItms, unTrns, cond_true, cond_false, Bool.and_true, Bool.true_and, unSnds, unStrms, cast_lt hlt, decide_eq_true hlt, next_at hlt hp.1, getD_at hy, hc, stI1]
      · simp only [outI1, hd, F.findI, hc, cond_true, F.found, F.got]
        rfl
  · have : k = l.length := by omega
    subst this
    left
    refine ⟨(.exit 0, ⟨[], []⟩), ?_, ?_, by simp, rfl⟩
    · rw [evI1L]; simp
    · simp [outI1, F.findI, F.found, T.val]

theorem evI1 (l : List Snd) (s : Snd) : (runF enI1 false Tryd.f77 [.sl (l.map eSnd), .fn 53 [.pel (eSnd s) 0]]).val =
  Option.bind (unenc stI11 (St.mk [(8, (vI (0 : Int))), (7, (vI (↑(List.length (List.map eSnd l)) : Int))), (1, AV.fn (53 : FuncId) [AV.pel [(vS s.group), (vS s.name), (vS
  s.lang), (vB s.dflt), (vS s.uri)] (0 : Nat)]), (0, AV.sl (List.map eSnd l))] [])) fun (z : List Snd × Snd × Nat) => bif decide (List.length z.fst ≤ (9223372036854775807 :
  Nat)) && decide (z.snd.snd ≤ List.length z.fst) && true then bif F.found (F.findI (F.sndTw z.snd.fst) z.snd.snd (List.drop z.snd.snd z.fst)) then some ((vI (↑(F.got
  (F.findI (F.sndTw z.snd.fst) z.snd.snd (List.drop z.snd.snd z.fst)) (0 : Nat)) : Int)), []) else some ((vI (-1 : Int)), []) else none := by kernel_rfl

def encI11 (l : List Snd) (s : Snd) : List AV := [.sl (l.map eSnd), .fn 53 [.pel (eSnd s) 0]]

def encI1 (a : (List Snd) × Snd) : List AV := encI11 a.1 a.2

theorem encI1_inj (a a' : (List Snd) × Snd) (h : encI1 a = encI1 a') : a = a' := by
  simp only [encI1, encI11] at h
  try simp [strs_inj, ents_inj, eEnt_iff, eLst_iff, eSnds_inj, eSnd_iff, eStrms_inj, eStrm_iff, eMas_iff] at h
  grind

theorem unI1 (l : List Snd) (s : Snd) : unenc encI1 ([AV.sl (List.map eSnd l), AV.fn (53 : FuncId) [AV.pel [(vS s.group), (vS s.name), (vS s.lang), (vB s.dflt), (vS s.uri)] (0 : Nat)]]) = some (l, s) := unenc_of encI1_inj (l, s) rfl

theorem unI1w (l : List Snd) (s_group : ByteArray) (s_name : ByteArray) (s_lang : ByteArray) (s_dflt : Bool) (s_uri : ByteArray) : unenc encI1 ([AV.sl (List.map eSnd l), AV.fn (53 : FuncId) [AV.pel [(vS s_group), (vS s_name), (vS s_lang), (vB s_dflt), (vS s_uri)] (0 : Nat)]]) = some (l, (Snd.mk s_group s_name s_lang s_dflt s_uri)) := unenc_of encI1_inj (l, (Snd.mk s_group s_name s_lang s_dflt s_uri)) rfl

def resI11 (l : List Snd) (s : Snd) : AV × Heap := (vI (F.idxI (F.findI (F.sndTw s) 0 l)), [])

def preI11 (l : List Snd) (s : Snd) : Bool := true

noncomputable def oI1 : Orc := orc 77 true encI1 (fun a => preI11 a.1 a.2) fun a => resI11 a.1 a.2

theorem okI1 : OrcOK Tryd.prog noG oI1 := by
  refine mk_ok Tryd.f77 (keep := false) (by kernel_rfl) (by kernel_rfl) enI1_ok mixed (one_loop (x0 := loopN Tryd.f77 0) (by kernel_rfl) (lpo_ok ?_)) (by first | exact fun _ _ => ⟨rfl, rfl⟩ | (intro h; cases h)) ?_
  · rintro ⟨l, s, k⟩ hp
    exact lpI1_ok l s k hp
  rintro ⟨l, s⟩ hpre hok
  show (runF enI1 false _ (encI11 _ _)).val = some (resI11 _ _)
  unfold encI11 resI11
  rw [evI1]
  have hx : l.length ≤ 9223372036854775807 := by simpa using (okA_sl (hok _ (List.mem_cons_self ..))).1
  simp only [unCl1, unCl1w, preCl11, unstI1, unstI10, prlI1, outI1, etaEnt, etaLst, etaSnd, etaStrm, etaMas, Option.bind_some, List.length_map, unStrs, unInts, unBools, unEnts, unItms, unTrns, cond_true, cond_false, Bool.and_true, Bool.true_and, unSnds, unStrms, hx, List.drop_zero, Nat.zero_le, decide_true, F.idxI]
  cases F.found (F.findI (F.sndTw s) 0 l) <;> rfl

noncomputable def enI1C : Env := envH ty noG lksS [oI1] [] [] []

theorem enI1C_ok : EnvOK Tryd.prog enI1C := by
  refine envH_ok lksS_ok ty_ok ?_ ?_
  · simp only [List.forall_mem_cons]
    exact ⟨okI1, by simp⟩
  · simp

theorem evI1C (l : List Snd) (s : Snd) : (runF enI1C false Tryd.f52 [.sl (l.map eSnd), .fn 53 [.pel (eSnd s) 0]]).val =
  Option.bind (unenc encI1 [AV.sl (List.map eSnd l), AV.fn (53 : FuncId) [AV.pel [(vS s.group), (vS s.name), (vS s.lang), (vB s.dflt), (vS s.uri)] (0 : Nat)]]) fun (z : List
  Snd × Snd) => some ((vB (decide ((0 : Int) ≤ F.idxI (F.findI (F.sndTw z.snd) (0 : Nat) z.fst)))), []) := by kernel_rfl

def encI1C1 (l : List Snd) (s : Snd) : List AV := [.sl (l.map eSnd), .fn 53 [.pel (eSnd s) 0]]

def encI1C (a : (List Snd) × Snd) : List AV := encI1C1 a.1 a.2

theorem encI1C_inj (a a' : (List Snd) × Snd) (h : encI1C a = encI1C a') : a = a' := by
  simp only [encI1C, encI1C1] at h
  try simp [strs_inj, ents_inj, eEnt_iff, eLst_iff, eSnds_inj, eSnd_iff, eStrms_inj, eStrm_iff, eMas_iff] at h
  grind

theorem unI1C (l : List Snd) (s : Snd) : unenc encI1C ([AV.sl (List.map eSnd l), AV.fn (53 : FuncId) [AV.pel [(vS s.group), (vS s.name), (vS s.lang), (vB s.dflt), (vS s.uri)] (0 : Nat)]]) = some (l, s) := unenc_of encI1C_inj (l, s) rfl

theorem unI1Cw (l : List Snd) (s_group : ByteArray) (s_name : ByteArray) (s_lang : ByteArray) (s_dflt : Bool) (s_uri : ByteArray) : unenc encI1C ([AV.sl (List.map eSnd l), AV.fn (53 : FuncId) [AV.pel [(vS s_group), (vS s_name), (vS s_lang), (vB s_dflt), (vS s_uri)] (0 : Nat)]]) = some (l, (Snd.mk s_group s_name s_lang s_dflt s_uri)) := unenc_of encI1C_inj (l, (Snd.mk s_group s_name s_lang s_dflt s_uri)) rfl

def resI1C1 (l : List Snd) (s : Snd) : AV × Heap := (vB (l.any (F.sndTw s)), [])

def preI1C1 (l : List Snd) (s : Snd) : Bool := true

noncomputable def oI1C : Orc := orc 52 true encI1C (fun a => preI1C1 a.1 a.2) fun a => resI1C1 a.1 a.2

theorem okI1C : OrcOK Tryd.prog noG oI1C := by
  refine mk_ok Tryd.f52 (keep := false) (by kernel_rfl) (by kernel_rfl) enI1C_ok mixed (no_loops (by kernel_rfl)) (by first | exact fun _ _ => ⟨rfl, rfl⟩ | (intro h; cases h)) ?_
  rintro ⟨l, s⟩ hpre hok
  show (runF enI1C false _ (encI1C1 _ _)).val = some (resI1C1 _ _)
  unfold encI1C1 resI1C1
  rw [evI1C]
  simp only [unI1, unI1w, preI11, etaEnt, etaLst, etaSnd, etaStrm, etaMas, Option.bind_some, List.length_map, unStrs, unInts, unBools, unEnts, unItms, unTrns, cond_true, cond_false, Bool.and_true, Bool.true_and, unSnds, unStrms, F.idx_any]


def stI2 (l : List Snd) (s : Snd) (k : Nat) : St := ⟨[(8, vI k), (7, vI l.length), (1, .fn 55 [.pel (eSnd s) 0]), (0, .sl (l.map eSnd))], []⟩

def stI21 (a : (List Snd) × Snd × Nat) : St := stI2 a.1 a.2.1 a.2.2

theorem stI2_inj (a a' : (List Snd) × Snd × Nat) (h : stI21 a = stI21 a') : a = a' := by
  simp only [stI21, stI2] at h
  try simp [strs_inj, ents_inj, eEnt_iff, eLst_iff, eSnds_inj, eSnd_iff, eStrms_inj, eStrm_iff, eMas_iff] at h
  grind

theorem unstI2 (l : List Snd) (s : Snd) (k : Nat) : unenc stI21 (St.mk [(8, (vI (↑k : Int))), (7, (vI (↑(List.length l) : Int))), (1, AV.fn (55 : FuncId) [AV.pel [(vS s.group), (vS s.name), (vS s.lang), (vB s.dflt), (vS s.uri)] (0 :
  Nat)]), (0, AV.sl (List.map eSnd l))] []) = some (l, s, k) := unenc_of stI2_inj (l, s, k) rfl

theorem unstI20 (l : List Snd) (s : Snd)  : unenc stI21 (St.mk [(8, (vI (0 : Int))), (7, (vI (↑(List.length l) : Int))), (1, AV.fn (55 : FuncId) [AV.pel [(vS s.group), (vS s.name), (vS s.lang), (vB s.dflt), (vS s.uri)] (0 :
  Nat)]), (0, AV.sl (List.map eSnd l))] []) = some (l, s, 0) := unenc_of stI2_inj (l, s, 0) rfl

def outI2 (l : List Snd) (s : Snd) (k : Nat) : T (Ex × St) := .ifB (F.found (F.findI (F.sndDf s) k (l.drop k))) (.ret (.ret, ⟨[(4, vI ((F.got (F.findI (F.sndDf s) k (l.drop k)) 0 : Nat) : Int))], []⟩)) (.ret (.exit 0, ⟨[], []⟩))

noncomputable def prlI2 (l : List Snd) (s : Snd) (k : Nat) : Bool := decide (l.length ≤ 9223372036854775807) && decide (k ≤ l.length)

noncomputable def lpI2 : Nat × (St → T (Ex × St)) := (2, lpo [8, 7, 1, 0] [] stI21 (fun a => prlI2 a.1 a.2.1 a.2.2) fun a => outI2 a.1 a.2.1 a.2.2)

noncomputable def enI2 : Env := envH ty noG lksS [oCl2] [] [] [lpI2]

theorem enI2_ok : EnvOK Tryd.prog enI2 := by
  refine envH_ok lksS_ok ty_ok ?_ ?_
  · simp only [List.forall_mem_cons]
    exact ⟨okCl2, by simp⟩
  · simp

theorem evI2L (l : List Snd) (s : Snd) (k : Nat) : ((exec enI2 (loopN Tryd.f77 0) (stI2 l s k)).bind (lessX ([8, 7, 1, 0], []) ([], []) ([4], []))).val =
  bif decide ((↑k : Int) < (↑(List.length l) : Int)) then Option.bind (unenc (List.map eSnd) (List.map eSnd l)) fun (z : List Snd) => bif decide (k < List.length z) then
  Option.bind (unenc encCl2 [AV.agg [(vS (List.getD z k (Snd.mk (ByteArray.mk (Array.mk [])) (ByteArray.mk (Array.mk [])) (ByteArray.mk (Array.mk [])) false (ByteArray.mk
  (Array.mk [])))).group), (vS (List.getD z k (Snd.mk (ByteArray.mk (Array.mk [])) (ByteArray.mk (Array.mk [])) (ByteArray.mk (Array.mk [])) false (ByteArray.mk (Array.mk
  [])))).name), (vS (List.getD z k (Snd.mk (ByteArray.mk (Array.mk [])) (ByteArray.mk (Array.mk [])) (ByteArray.mk (Array.mk [])) false (ByteArray.mk (Array.mk [])))).lang),
  (vB (List.getD z k (Snd.mk (ByteArray.mk (Array.mk [])) (ByteArray.mk (Array.mk [])) (ByteArray.mk (Array.mk [])) false (ByteArray.mk (Array.mk [])))).dflt), (vS
  (List.getD z k (Snd.mk (ByteArray.mk (Array.mk [])) (ByteArray.mk (Array.mk [])) (ByteArray.mk (Array.mk [])) false (ByteArray.mk (Array.mk [])))).uri)], AV.pel [(vS
  s.group), (vS s.name), (vS s.lang), (vB s.dflt), (vS s.uri)] (0 : Nat)]) fun (z : Snd × Snd) => bif F.sndDf z.snd z.fst then some (Ex.ret, St.mk [(4, (vI (↑k : Int)))] [])
  else some (Ex.normal, St.mk [(8, (vI (IntKind.wrap IntKind.i64 ((↑k : Int) + (1 : Int))))), (7, (vI (↑(List.length l) : Int))), (1, AV.fn (55 : FuncId) [AV.pel [(vS
  s.group), (vS s.name), (vS s.lang), (vB s.dflt), (vS s.uri)] (0 : Nat)]), (0, AV.sl (List.map eSnd l))] []) else none else some (Ex.exit (0 : Nat), St.mk [] []) := by kernel_rfl

theorem lpI2_ok (l : List Snd) (s : Snd) (k : Nat) (hp : prlI2 l s k = true) : ∀ ex s', (outI2 l s k).val = some (ex, s') → LoopOK enI2 (loopN Tryd.f77 0) (stI2 l s k) ex s' := by
  simp only [prlI2, Bool.and_eq_true, decide_eq_true_eq] at hp
  refine loop_gen (st := stI2 l s) (out := outI2 l s) (I := fun k => k ≤ l.length) (n := ([8, 7, 1, 0], [])) (e := ([], [])) (r := ([4], [])) (fun k => l.length - k) ?_ k hp.2
  intro k hk
  by_cases hlt : k < l.length
  · have hy : l[k]? = some l[k] := List.getElem?_eq_getElem hlt
    generalize l[k] = y at hy
    have hd := drop_at hy
    cases hc : (F.sndDf s) y
    · right
      refine ⟨k + 1, ?_, rfl, hlt, by omega, ?_⟩
      · rw [evI2L]
        simp only [unCl2, unCl2w, preCl21, unstI2, unstI20, prlI2, outI2, etaEnt, etaLst, etaSnd, etaStrm, etaMas, Option.bind_some, List.length_map, unStrs, unInts, unBools, unEnts, unItms, unTrns, cond_true, cond_false, Bool.and_true, Bool.true_and, unSnds, unStrms, cast_lt hlt, decide_eq_true hlt, next_at hlt hp.1, getD_at hy, hc, stI2]
        try rfl
      · simp only [outI2, hd, F.findI, hc, cond_false]
    · left
      refine ⟨(.ret, ⟨[(4, vI k)], []⟩), ?_, ?_, by simp, rfl⟩
      · rw [evI2L]
        simp only [unCl2, unCl2w, preCl21, unstI2, unstI20, prlI2, outI2, etaEnt, etaLst, etaSnd, etaStrm, etaMas, Option.bind_some, List.length_map, unStrs, unInts, unBools, unEnts, unItms, unTrns, cond_true, cond_false, Bool.and_true, Bool.true_and, unSnds, unStrms, cast_lt hlt, decide_eq_true hlt, next_at hlt hp.1, getD_at hy, hc, stI2]
      · simp only [outI2, hd, F.findI, hc, cond_true, F.found, F.got]
        rfl
  · have : k = l.length := by omega
    subst this
    left
    refine ⟨(.exit 0, ⟨[], []⟩), ?_, ?_, by simp, rfl⟩
    · rw [evI2L]; simp
    · simp [outI2, F.findI, F.found, T.val]

theorem evI2 (l : List Snd) (s : Snd) : (runF enI2 false Tryd.f77 [.sl (l.map eSnd), .fn 55 [.pel (eSnd s) 0]]).val =
  Option.bind (unenc stI21 (St.mk [(8, (vI (0 : Int))), (7, (vI (↑(List.length (List.map eSnd l)) : Int))), (1, AV.fn (55 : FuncId) [AV.pel [(vS s.group), (vS s.name), (vS
  s.lang), (vB s.dflt), (vS s.uri)] (0 : Nat)]), (0, AV.sl (List.map eSnd l))] [])) fun (z : List Snd × Snd × Nat) => bif decide (List.length z.fst ≤ (9223372036854775807 :
  Nat)) && decide (z.snd.snd ≤ List.length z.fst) && true then bif F.found (F.findI (F.sndDf z.snd.fst) z.snd.snd (List.drop z.snd.snd z.fst)) then some ((vI (↑(F.got
  (F.findI (F.sndDf z.snd.fst) z.snd.snd (List.drop z.snd.snd z.fst)) (0 : Nat)) : Int)), []) else some ((vI (-1 : Int)), []) else none := by kernel_rfl

def encI21 (l : List Snd) (s : Snd) : List AV := [.sl (l.map eSnd), .fn 55 [.pel (eSnd s) 0]]

def encI2 (a : (List Snd) × Snd) : List AV := encI21 a.1 a.2

theorem encI2_inj (a a' : (List Snd) × Snd) (h : encI2 a = encI2 a') : a = a' := by
  simp only [encI2, encI21] at h
  try simp [strs_inj, ents_inj, eEnt_iff, eLst_iff, eSnds_inj, eSnd_iff, eStrms_inj, eStrm_iff, eMas_iff] at h
  grind

theorem unI2 (l : List Snd) (s : Snd) : unenc encI2 ([AV.sl (List.map eSnd l), AV.fn (55 : FuncId) [AV.pel [(vS s.group), (vS s.name), (vS s.lang), (vB s.dflt), (vS s.uri)] (0 : Nat)]]) = some (l, s) := unenc_of encI2_inj (l, s) rfl

theorem unI2w (l : List Snd) (s_group : ByteArray) (s_name : ByteArray) (s_lang : ByteArray) (s_dflt : Bool) (s_uri : ByteArray) : unenc encI2 ([AV.sl (List.map eSnd l), AV.fn (55 : FuncId) [AV.pel [(vS s_group), (vS s_name), (vS s_lang), (vB s_dflt), (vS s_uri)] (0 : Nat)]]) = some (l, (Snd.mk s_group s_name s_lang s_dflt s_uri)) := unenc_of encI2_inj (l, (Snd.mk s_group s_name s_lang s_dflt s_uri)) rfl

def resI21 (l : List Snd) (s : Snd) : AV × Heap := (vI (F.idxI (F.findI (F.sndDf s) 0 l)), [])

def preI21 (l : List Snd) (s : Snd) : Bool := true

noncomputable def oI2 : Orc := orc 77 true encI2 (fun a => preI21 a.1 a.2) fun a => resI21 a.1 a.2

theorem okI2 : OrcOK Tryd.prog noG oI2 := by
  refine mk_ok Tryd.f77 (keep := false) (by kernel_rfl) (by kernel_rfl) enI2_ok mixed (one_loop (x0 := loopN Tryd.f77 0) (by kernel_rfl) (lpo_ok ?_)) (by first | exact fun _ _ => ⟨rfl, rfl⟩ | (intro h; cases h)) ?_
  · rintro ⟨l, s, k⟩ hp
    exact lpI2_ok l s k hp
  rintro ⟨l, s⟩ hpre hok
  show (runF enI2 false _ (encI21 _ _)).val = some (resI21 _ _)
  unfold encI21 resI21
  rw [evI2]
  have hx : l.length ≤ 9223372036854775807 := by simpa using (okA_sl (hok _ (List.mem_cons_self ..))).1
  simp only [unCl2, unCl2w, preCl21, unstI2, unstI20, prlI2, outI2, etaEnt, etaLst, etaSnd, etaStrm, etaMas, Option.bind_some, List.length_map, unStrs, unInts, unBools, unEnts, unItms, unTrns, cond_true, cond_false, Bool.and_true, Bool.true_and, unSnds, unStrms, hx, List.drop_zero, Nat.zero_le, decide_true, F.idxI]
  cases F.found (F.findI (F.sndDf s) 0 l) <;> rfl

noncomputable def enI2C : Env := envH ty noG lksS [oI2] [] [] []

theorem enI2C_ok : EnvOK Tryd.prog enI2C := by
  refine envH_ok lksS_ok ty_ok ?_ ?_
  · simp only [List.forall_mem_cons]
    exact ⟨okI2, by simp⟩
  · simp

theorem evI2C (l : List Snd) (s : Snd) : (runF enI2C false Tryd.f52 [.sl (l.map eSnd), .fn 55 [.pel (eSnd s) 0]]).val =
  Option.bind (unenc encI2 [AV.sl (List.map eSnd l), AV.fn (55 : FuncId) [AV.pel [(vS s.group), (vS s.name), (vS s.lang), (vB s.dflt), (vS s.uri)] (0 : Nat)]]) fun (z : List
  Snd × Snd) => some ((vB (decide ((0 : Int) ≤ F.idxI (F.findI (F.sndDf z.snd) (0 : Nat) z.fst)))), []) := by kernel_rfl

def encI2C1 (l : List Snd) (s : Snd) : List AV := [.sl (l.map eSnd), .fn 55 [.pel (eSnd s) 0]]

def encI2C (a : (List Snd) × Snd) : List AV := encI2C1 a.1 a.2

theorem encI2C_inj (a a' : (List Snd) × Snd) (h : encI2C a = encI2C a') : a = a' := by
  simp only [encI2C, encI2C1] at h
  try simp [strs_inj, ents_inj, eEnt_iff, eLst_iff, eSnds_inj, eSnd_iff, eStrms_inj, eStrm_iff, eMas_iff] at h
  grind

theorem unI2C (l : List Snd) (s : Snd) : unenc encI2C ([AV.sl (List.map eSnd l), AV.fn (55 : FuncId) [AV.pel [(vS s.group), (vS s.name), (vS s.lang), (vB s.dflt), (vS s.uri)] (0 : Nat)]]) = some (l, s) := unenc_of encI2C_inj (l, s) rfl

theorem unI2Cw (l : List Snd) (s_group : ByteArray) (s_name : ByteArray) (s_lang : ByteArray) (s_dflt : Bool) (s_uri : ByteArray) : unenc encI2C ([AV.sl (List.map eSnd l), AV.fn (55 : FuncId) [AV.pel [(vS s_group), (vS s_name), (vS s_lang), (vB s_dflt), (vS s_uri)] (0 : Nat)]]) = some (l, (Snd.mk s_group s_name s_lang s_dflt s_uri)) := unenc_of encI2C_inj (l, (Snd.mk s_group s_name s_lang s_dflt s_uri)) rfl

def resI2C1 (l : List Snd) (s : Snd) : AV × Heap := (vB (l.any (F.sndDf s)), [])

def preI2C1 (l : List Snd) (s : Snd) : Bool := true

noncomputable def oI2C : Orc := orc 52 true encI2C (fun a => preI2C1 a.1 a.2) fun a => resI2C1 a.1 a.2

theorem okI2C : OrcOK Tryd.prog noG oI2C := by
  refine mk_ok Tryd.f52 (keep := false) (by kernel_rfl) (by kernel_rfl) enI2C_ok mixed (no_loops (by kernel_rfl)) (by first | exact fun _ _ => ⟨rfl, rfl⟩ | (intro h; cases h)) ?_
  rintro ⟨l, s⟩ hpre hok
  show (runF enI2C false _ (encI2C1 _ _)).val = some (resI2C1 _ _)
  unfold encI2C1 resI2C1
  rw [evI2C]
  simp only [unI2, unI2w, preI21, etaEnt, etaLst, etaSnd, etaStrm, etaMas, Option.bind_some, List.length_map, unStrs, unInts, unBools, unEnts, unItms, unTrns, cond_true, cond_false, Bool.and_true, Bool.true_and, unSnds, unStrms, F.idx_any]


def stI3 (l : List Strm) (s : Strm) (k : Nat) : St := ⟨[(8, vI k), (7, vI l.length), (1, .fn 58 [.pel (eStrm s) 0]), (0, .sl (l.map eStrm))], []⟩

def stI31 (a : (List Strm) × Strm × Nat) : St := stI3 a.1 a.2.1 a.2.2

theorem stI3_inj (a a' : (List Strm) × Strm × Nat) (h : stI31 a = stI31 a') : a = a' := by
  simp only [stI31, stI3] at h
  try simp [strs_inj, ents_inj, eEnt_iff, eLst_iff, eSnds_inj, eSnd_iff, eStrms_inj, eStrm_iff, eMas_iff] at h
  grind

theorem unstI3 (l : List Strm) (s : Strm) (k : Nat) : unenc stI31 (St.mk [(8, (vI (↑k : Int))), (7, (vI (↑(List.length l) : Int))), (1, AV.fn (58 : FuncId) [AV.pel [(vS s.name), (vS s.uri), (vI s.mean), (vI s.peak), (vI s.width), (vI
  s.height), (vS s.sound)] (0 : Nat)]), (0, AV.sl (List.map eStrm l))] []) = some (l, s, k) := unenc_of stI3_inj (l, s, k) rfl

theorem unstI30 (l : List Strm) (s : Strm)  : unenc stI31 (St.mk [(8, (vI (0 : Int))), (7, (vI (↑(List.length l) : Int))), (1, AV.fn (58 : FuncId) [AV.pel [(vS s.name), (vS s.uri), (vI s.mean), (vI s.peak), (vI s.width), (vI
  s.height), (vS s.sound)] (0 : Nat)]), (0, AV.sl (List.map eStrm l))] []) = some (l, s, 0) := unenc_of stI3_inj (l, s, 0) rfl

def outI3 (l : List Strm) (s : Strm) (k : Nat) : T (Ex × St) := .ifB (F.found (F.findI (fun o => F.seq o.name s.name) k (l.drop k))) (.ret (.ret, ⟨[(4, vI ((F.got (F.findI (fun o => F.seq o.name s.name) k (l.drop k)) 0 : Nat) : Int))], []⟩)) (.ret (.exit 0, ⟨[], []⟩))

noncomputable def prlI3 (l : List Strm) (s : Strm) (k : Nat) : Bool := decide (l.length ≤ 9223372036854775807) && decide (k ≤ l.length)

noncomputable def lpI3 : Nat × (St → T (Ex × St)) := (2, lpo [8, 7, 1, 0] [] stI31 (fun a => prlI3 a.1 a.2.1 a.2.2) fun a => outI3 a.1 a.2.1 a.2.2)

noncomputable def enI3 : Env := envH ty noG lksS [oCl3] [] [] [lpI3]

theorem enI3_ok : EnvOK Tryd.prog enI3 := by
  refine envH_ok lksS_ok ty_ok ?_ ?_
  · simp only [List.forall_mem_cons]
    exact ⟨okCl3, by simp⟩
  · simp

theorem evI3L (l : List Strm) (s : Strm) (k : Nat) : ((exec enI3 (loopN Tryd.f78 0) (stI3 l s k)).bind (lessX ([8, 7, 1, 0], []) ([], []) ([4], []))).val =
  bif decide ((↑k : Int) < (↑(List.length l) : Int)) then Option.bind (unenc (List.map eStrm) (List.map eStrm l)) fun (z : List Strm) => bif decide (k < List.length z) then
  Option.bind (unenc encCl3 [AV.agg [(vS (List.getD z k (Strm.mk (ByteArray.mk (Array.mk [])) (ByteArray.mk (Array.mk [])) (0 : Int) (0 : Int) (0 : Int) (0 : Int)
  (ByteArray.mk (Array.mk [])))).name), (vS (List.getD z k (Strm.mk (ByteArray.mk (Array.mk [])) (ByteArray.mk (Array.mk [])) (0 : Int) (0 : Int) (0 : Int) (0 : Int)
  (ByteArray.mk (Array.mk [])))).uri), (vI (List.getD z k (Strm.mk (ByteArray.mk (Array.mk [])) (ByteArray.mk (Array.mk [])) (0 : Int) (0 : Int) (0 : Int) (0 : Int)
  (ByteArray.mk (Array.mk [])))).mean), (vI (List.getD z k (Strm.mk (ByteArray.mk (Array.mk [])) (ByteArray.mk (Array.mk [])) (0 : Int) (0 : Int) (0 : Int) (0 : Int)
  (ByteArray.mk (Array.mk [])))).peak), (vI (List.getD z k (Strm.mk (ByteArray.mk (Array.mk [])) (ByteArray.mk (Array.mk [])) (0 : Int) (0 : Int) (0 : Int) (0 : Int)
  (ByteArray.mk (Array.mk [])))).width), (vI (List.getD z k (Strm.mk (ByteArray.mk (Array.mk [])) (ByteArray.mk (Array.mk [])) (0 : Int) (0 : Int) (0 : Int) (0 : Int)
  (ByteArray.mk (Array.mk [])))).height), (vS (List.getD z k (Strm.mk (ByteArray.mk (Array.mk [])) (ByteArray.mk (Array.mk [])) (0 : Int) (0 : Int) (0 : Int) (0 : Int)
  (ByteArray.mk (Array.mk [])))).sound)], AV.pel [(vS s.name), (vS s.uri), (vI s.mean), (vI s.peak), (vI s.width), (vI s.height), (vS s.sound)] (0 : Nat)]) fun (z : Strm ×
  Strm) => bif F.seq z.fst.name z.snd.name then some (Ex.ret, St.mk [(4, (vI (↑k : Int)))] []) else some (Ex.normal, St.mk [(8, (vI (IntKind.wrap IntKind.i64 ((↑k : Int) +
  (1 : Int))))), (7, (vI (↑(List.length l) : Int))), (1, AV.fn (58 : FuncId) [AV.pel [(vS s.name), (vS s.uri), (vI s.mean), (vI s.peak), (vI s.width), (vI s.height), (vS
  s.sound)] (0 : Nat)]), (0, AV.sl (List.map eStrm l))] []) else none else some (Ex.exit (0 : Nat), St.mk [] []) := by kernel_rfl

theorem lpI3_ok (l : List Strm) (s : Strm) (k : Nat) (hp : prlI3 l s k = true) : ∀ ex s', (outI3 l s k).val = some (ex, s') → LoopOK enI3 (loopN Tryd.f78 0) (stI3 l s k) ex s' := by
  simp only [prlI3, Bool.and_eq_true, decide_eq_true_eq] at hp
  refine loop_gen (st := stI3 l s) (out := outI3 l s) (I := fun k => k ≤ l.length) (n := ([8, 7, 1, 0], [])) (e := ([], [])) (r := ([4], [])) (fun k => l.length - k) ?_ k hp.2
  intro k hk
  by_cases hlt : k < l.length
  · have hy : l[k]? = some l[k] := List.getElem?_eq_getElem hlt
    generalize l[k] = y at hy
    have hd := drop_at hy
    cases hc : (fun o => F.seq o.name s.name) y
    · right
      refine ⟨k + 1, ?_, rfl, hlt, by omega, ?_⟩
      · rw [evI3L]
        simp only [unCl3, unCl3w, preCl31, unstI3, unstI30, prlI3, outI3, etaEnt, etaLst, etaSnd, etaStrm, etaMas, Option.bind_some, List.length_map, unStrs, unInts, unBools, unEnts, unItms, unTrns, cond_true, cond_false, Bool.and_true, Bool.true_and, unSnds, unStrms, cast_lt hlt, decide_eq_true hlt, next_at hlt hp.1, getD_at hy, hc, stI3]
        try rfl
      · simp only [outI3, hd, F.findI, hc, cond_false]
    · left
      refine ⟨(.ret, ⟨[(4, vI k)], []⟩), ?_, ?_, by simp, rfl⟩
      · rw [evI3L]
        simp only [unCl3, unCl3w, preCl31, unstI3, unstI30, prlI3, outI3, etaEnt, etaLst, etaSnd, etaStrm, etaMas, Option.bind_some, List.length_map, unStrs, unInts, unBools, unEnts, unItms, unTrns, cond_true, cond_false, Bool.and_true, Bool.true_and, unSnds, unStrms, cast_lt hlt, decide_eq_true hlt, next_at hlt hp.1, getD_at hy, hc, stI3]
      · simp only [outI3, hd, F.findI, hc, cond_true, F.found, F.got]
        rfl
  · have : k = l.length := by omega
    subst this
    left
    refine ⟨(.exit 0, ⟨[], []⟩), ?_, ?_, by simp, rfl⟩
    · rw [evI3L]; simp
    · simp [outI3, F.findI, F.found, T.val]

theorem evI3 (l : List Strm) (s : Strm) : (runF enI3 false Tryd.f78 [.sl (l.map eStrm), .fn 58 [.pel (eStrm s) 0]]).val =
  Option.bind (unenc stI31 (St.mk [(8, (vI (0 : Int))), (7, (vI (↑(List.length (List.map eStrm l)) : Int))), (1, AV.fn (58 : FuncId) [AV.pel [(vS s.name), (vS s.uri), (vI
  s.mean), (vI s.peak), (vI s.width), (vI s.height), (vS s.sound)] (0 : Nat)]), (0, AV.sl (List.map eStrm l))] [])) fun (z : List Strm × Strm × Nat) => bif decide
  (List.length z.fst ≤ (9223372036854775807 : Nat)) && decide (z.snd.snd ≤ List.length z.fst) && true then bif F.found (F.findI (fun (o : Strm) => F.seq o.name
  z.snd.fst.name) z.snd.snd (List.drop z.snd.snd z.fst)) then some ((vI (↑(F.got (F.findI (fun (o : Strm) => F.seq o.name z.snd.fst.name) z.snd.snd (List.drop z.snd.snd
  z.fst)) (0 : Nat)) : Int)), []) else some ((vI (-1 : Int)), []) else none := by kernel_rfl

def encI31 (l : List Strm) (s : Strm) : List AV := [.sl (l.map eStrm), .fn 58 [.pel (eStrm s) 0]]

def encI3 (a : (List Strm) × Strm) : List AV := encI31 a.1 a.2

theorem encI3_inj (a a' : (List Strm) × Strm) (h : encI3 a = encI3 a') : a = a' := by
  simp only [encI3, encI31] at h
  try simp [strs_inj, ents_inj, eEnt_iff, eLst_iff, eSnds_inj, eSnd_iff, eStrms_inj, eStrm_iff, eMas_iff] at h
  grind

theorem unI3 (l : List Strm) (s : Strm) : unenc encI3 ([AV.sl (List.map eStrm l), AV.fn (58 : FuncId) [AV.pel [(vS s.name), (vS s.uri), (vI s.mean), (vI s.peak), (vI s.width), (vI s.height), (vS s.sound)] (0 : Nat)]]) = some (l, s) := unenc_of encI3_inj (l, s) rfl

theorem unI3w (l : List Strm) (s_name : ByteArray) (s_uri : ByteArray) (s_mean : Int) (s_peak : Int) (s_width : Int) (s_height : Int) (s_sound : ByteArray) : unenc encI3 ([AV.sl (List.map eStrm l), AV.fn (58 : FuncId) [AV.pel [(vS s_name), (vS s_uri), (vI s_mean), (vI s_peak), (vI s_width), (vI s_height), (vS s_sound)] (0 : Nat)]]) = some (l, (Strm.mk s_name s_uri s_mean s_peak s_width s_height s_sound)) := unenc_of encI3_inj (l, (Strm.mk s_name s_uri s_mean s_peak s_width s_height s_sound)) rfl

def resI31 (l : List Strm) (s : Strm) : AV × Heap := (vI (F.idxI (F.findI (fun o => F.seq o.name s.name) 0 l)), [])

def preI31 (l : List Strm) (s : Strm) : Bool := true

noncomputable def oI3 : Orc := orc 78 true encI3 (fun a => preI31 a.1 a.2) fun a => resI31 a.1 a.2

theorem okI3 : OrcOK Tryd.prog noG oI3 := by
  refine mk_ok Tryd.f78 (keep := false) (by kernel_rfl) (by kernel_rfl) enI3_ok mixed (one_loop (x0 := loopN Tryd.f78 0) (by kernel_rfl) (lpo_ok ?_)) (by first | exact fun _ _ => ⟨rfl, rfl⟩ | (intro h; cases h)) ?_
  · rintro ⟨l, s, k⟩ hp
    exact lpI3_ok l s k hp
  rintro ⟨l, s⟩ hpre hok
  show (runF enI3 false _ (encI31 _ _)).val = some (resI31 _ _)
  unfold encI31 resI31
  rw [evI3]
  have hx : l.length ≤ 9223372036854775807 := by simpa using (okA_sl (hok _ (List.mem_cons_self ..))).1
  simp only [unCl3, unCl3w, preCl31, unstI3, unstI30, prlI3, outI3, etaEnt, etaLst, etaSnd, etaStrm, etaMas, Option.bind_some, List.length_map, unStrs, unInts, unBools, unEnts, unItms, unTrns, cond_true, cond_false, Bool.and_true, Bool.true_and, unSnds, unStrms, hx, List.drop_zero, Nat.zero_le, decide_true, F.idxI]
  cases F.found (F.findI (fun o => F.seq o.name s.name) 0 l) <;> rfl

noncomputable def enI3C : Env := envH ty noG lksS [oI3] [] [] []

theorem enI3C_ok : EnvOK Tryd.prog enI3C := by
  refine envH_ok lksS_ok ty_ok ?_ ?_
  · simp only [List.forall_mem_cons]
    exact ⟨okI3, by simp⟩
  · simp

theorem evI3C (l : List Strm) (s : Strm) : (runF enI3C false Tryd.f57 [.sl (l.map eStrm), .fn 58 [.pel (eStrm s) 0]]).val =
  Option.bind (unenc encI3 [AV.sl (List.map eStrm l), AV.fn (58 : FuncId) [AV.pel [(vS s.name), (vS s.uri), (vI s.mean), (vI s.peak), (vI s.width), (vI s.height), (vS
  s.sound)] (0 : Nat)]]) fun (z : List Strm × Strm) => some ((vB (decide ((0 : Int) ≤ F.idxI (F.findI (fun (o : Strm) => F.seq o.name z.snd.name) (0 : Nat) z.fst)))), []) := by kernel_rfl

def encI3C1 (l : List Strm) (s : Strm) : List AV := [.sl (l.map eStrm), .fn 58 [.pel (eStrm s) 0]]

def encI3C (a : (List Strm) × Strm) : List AV := encI3C1 a.1 a.2

theorem encI3C_inj (a a' : (List Strm) × Strm) (h : encI3C a = encI3C a') : a = a' := by
  simp only [encI3C, encI3C1] at h
  try simp [strs_inj, ents_inj, eEnt_iff, eLst_iff, eSnds_inj, eSnd_iff, eStrms_inj, eStrm_iff, eMas_iff] at h
  grind

theorem unI3C (l : List Strm) (s : Strm) : unenc encI3C ([AV.sl (List.map eStrm l), AV.fn (58 : FuncId) [AV.pel [(vS s.name), (vS s.uri), (vI s.mean), (vI s.peak), (vI s.width), (vI s.height), (vS s.sound)] (0 : Nat)]]) = some (l, s) := unenc_of encI3C_inj (l, s) rfl

theorem unI3Cw (l : List Strm) (s_name : ByteArray) (s_uri : ByteArray) (s_mean : Int) (s_peak : Int) (s_width : Int) (s_height : Int) (s_sound : ByteArray) : unenc encI3C ([AV.sl (List.map eStrm l), AV.fn (58 : FuncId) [AV.pel [(vS s_name), (vS s_uri), (vI s_mean), (vI s_peak), (vI s_width), (vI s_height), (vS s_sound)] (0 : Nat)]]) = some (l, (Strm.mk s_name s_uri s_mean s_peak s_width s_height s_sound)) := unenc_of encI3C_inj (l, (Strm.mk s_name s_uri s_mean s_peak s_width s_height s_sound)) rfl

def resI3C1 (l : List Strm) (s : Strm) : AV × Heap := (vB (l.any (fun o => F.seq o.name s.name)), [])

def preI3C1 (l : List Strm) (s : Strm) : Bool := true

noncomputable def oI3C : Orc := orc 57 true encI3C (fun a => preI3C1 a.1 a.2) fun a => resI3C1 a.1 a.2

theorem okI3C : OrcOK Tryd.prog noG oI3C := by
  refine mk_ok Tryd.f57 (keep := false) (by kernel_rfl) (by kernel_rfl) enI3C_ok mixed (no_loops (by kernel_rfl)) (by first | exact fun _ _ => ⟨rfl, rfl⟩ | (intro h; cases h)) ?_
  rintro ⟨l, s⟩ hpre hok
  show (runF enI3C false _ (encI3C1 _ _)).val = some (resI3C1 _ _)
  unfold encI3C1 resI3C1
  rw [evI3C]
  simp only [unI3, unI3w, preI31, etaEnt, etaLst, etaSnd, etaStrm, etaMas, Option.bind_some, List.length_map, unStrs, unInts, unBools, unEnts, unItms, unTrns, cond_true, cond_false, Bool.and_true, Bool.true_and, unSnds, unStrms, F.idx_any]


def stI4 (l : List Snd) (s : Strm) (k : Nat) : St := ⟨[(8, vI k), (7, vI l.length), (1, .fn 59 [.pel (eStrm s) 0]), (0, .sl (l.map eSnd))], []⟩

def stI41 (a : (List Snd) × Strm × Nat) : St := stI4 a.1 a.2.1 a.2.2

theorem stI4_inj (a a' : (List Snd) × Strm × Nat) (h : stI41 a = stI41 a') : a = a' := by
  simp only [stI41, stI4] at h
  try simp [strs_inj, ents_inj, eEnt_iff, eLst_iff, eSnds_inj, eSnd_iff, eStrms_inj, eStrm_iff, eMas_iff] at h
  grind

theorem unstI4 (l : List Snd) (s : Strm) (k : Nat) : unenc stI41 (St.mk [(8, (vI (↑k : Int))), (7, (vI (↑(List.length l) : Int))), (1, AV.fn (59 : FuncId) [AV.pel [(vS s.name), (vS s.uri), (vI s.mean), (vI s.peak), (vI s.width), (vI
  s.height), (vS s.sound)] (0 : Nat)]), (0, AV.sl (List.map eSnd l))] []) = some (l, s, k) := unenc_of stI4_inj (l, s, k) rfl

theorem unstI40 (l : List Snd) (s : Strm)  : unenc stI41 (St.mk [(8, (vI (0 : Int))), (7, (vI (↑(List.length l) : Int))), (1, AV.fn (59 : FuncId) [AV.pel [(vS s.name), (vS s.uri), (vI s.mean), (vI s.peak), (vI s.width), (vI
  s.height), (vS s.sound)] (0 : Nat)]), (0, AV.sl (List.map eSnd l))] []) = some (l, s, 0) := unenc_of stI4_inj (l, s, 0) rfl

def outI4 (l : List Snd) (s : Strm) (k : Nat) : T (Ex × St) := .ifB (F.found (F.findI (fun o => F.seq o.group s.sound) k (l.drop k))) (.ret (.ret, ⟨[(4, vI ((F.got (F.findI (fun o => F.seq o.group s.sound) k (l.drop k)) 0 : Nat) : Int))], []⟩)) (.ret (.exit 0, ⟨[], []⟩))

noncomputable def prlI4 (l : List Snd) (s : Strm) (k : Nat) : Bool := decide (l.length ≤ 9223372036854775807) && decide (k ≤ l.length)

noncomputable def lpI4 : Nat × (St → T (Ex × St)) := (2, lpo [8, 7, 1, 0] [] stI41 (fun a => prlI4 a.1 a.2.1 a.2.2) fun a => outI4 a.1 a.2.1 a.2.2)

noncomputable def enI4 : Env := envH ty noG lksS [oCl4] [] [] [lpI4]

theorem enI4_ok : EnvOK Tryd.prog enI4 := by
  refine envH_ok lksS_ok ty_ok ?_ ?_
  · simp only [List.forall_mem_cons]
    exact ⟨okCl4, by simp⟩
  · simp

theorem evI4L (l : List Snd) (s : Strm) (k : Nat) : ((exec enI4 (loopN Tryd.f77 0) (stI4 l s k)).bind (lessX ([8, 7, 1, 0], []) ([], []) ([4], []))).val =
  bif decide ((↑k : Int) < (↑(List.length l) : Int)) then Option.bind (unenc (List.map eSnd) (List.map eSnd l)) fun (z : List Snd) => bif decide (k < List.length z) then
  Option.bind (unenc encCl4 [AV.agg [(vS (List.getD z k (Snd.mk (ByteArray.mk (Array.mk [])) (ByteArray.mk (Array.mk [])) (ByteArray.mk (Array.mk [])) false (ByteArray.mk
  (Array.mk [])))).group), (vS (List.getD z k (Snd.mk (ByteArray.mk (Array.mk [])) (ByteArray.mk (Array.mk [])) (ByteArray.mk (Array.mk [])) false (ByteArray.mk (Array.mk
  [])))).name), (vS (List.getD z k (Snd.mk (ByteArray.mk (Array.mk [])) (ByteArray.mk (Array.mk [])) (ByteArray.mk (Array.mk [])) false (ByteArray.mk (Array.mk [])))).lang),
  (vB (List.getD z k (Snd.mk (ByteArray.mk (Array.mk [])) (ByteArray.mk (Array.mk [])) (ByteArray.mk (Array.mk [])) false (ByteArray.mk (Array.mk [])))).dflt), (vS
  (List.getD z k (Snd.mk (ByteArray.mk (Array.mk [])) (ByteArray.mk (Array.mk [])) (ByteArray.mk (Array.mk [])) false (ByteArray.mk (Array.mk [])))).uri)], AV.pel [(vS
  s.name), (vS s.uri), (vI s.mean), (vI s.peak), (vI s.width), (vI s.height), (vS s.sound)] (0 : Nat)]) fun (z : Snd × Strm) => bif F.seq z.fst.group z.snd.sound then some
  (Ex.ret, St.mk [(4, (vI (↑k : Int)))] []) else some (Ex.normal, St.mk [(8, (vI (IntKind.wrap IntKind.i64 ((↑k : Int) + (1 : Int))))), (7, (vI (↑(List.length l) : Int))),
  (1, AV.fn (59 : FuncId) [AV.pel [(vS s.name), (vS s.uri), (vI s.mean), (vI s.peak), (vI s.width), (vI s.height), (vS s.sound)] (0 : Nat)]), (0, AV.sl (List.map eSnd l))]
  []) else none else some (Ex.exit (0 : Nat), St.mk [] []) := by kernel_rfl

theorem lpI4_ok (l : List Snd) (s : Strm) (k : Nat) (hp : prlI4 l s k = true) : ∀ ex s', (outI4 l s k).val = some (ex, s') → LoopOK enI4 (loopN Tryd.f77 0) (stI4 l s k) ex s' := by
  simp only [prlI4, Bool.and_eq_true, decide_eq_true_eq] at hp
  refine loop_gen (st := stI4 l s) (out := outI4 l s) (I := fun k => k ≤ l.length) (n := ([8, 7, 1, 0], [])) (e := ([], [])) (r := ([4], [])) (fun k => l.length - k) ?_ k hp.2
  intro k hk
  by_cases hlt : k < l.length
  · have hy : l[k]? = some l[k] := List.getElem?_eq_getElem hlt
    generalize l[k] = y at hy
    have hd := drop_at hy
    cases hc : (fun o => F.seq o.group s.sound) y
    · right
      refine ⟨k + 1, ?_, rfl, hlt, by omega, ?_⟩
      · rw [evI4L]
        simp only [unCl4, unCl4w, preCl41, unstI4, unstI40, prlI4, outI4, etaEnt, etaLst, etaSnd, etaStrm, etaMas, Option.bind_some, List.length_map, unStrs, unInts, unBools, unEnts, unItms, unTrns, cond_true, cond_false, Bool.and_true, Bool.true_and, unSnds, unStrms, cast_lt hlt, decide_eq_true hlt, next_at hlt hp.1, getD_at hy, hc, stI4]
        try rfl
      · simp only [outI4, hd, F.findI, hc, cond_false]
    · left
      refine ⟨(.ret, ⟨[(4, vI k)], []⟩), ?_, ?_, by simp, rfl⟩
      · rw [evI4L]
        simp only [unCl4, unCl4w, preCl41, unstI4, unstI40, prlI4, outI4, etaEnt, etaLst, etaSnd, etaStrm, etaMas, Option.bind_some, List.length_map, unStrs, unInts, unBools, unEnts, unItms, unTrns, cond_true, cond_false, Bool.and_true, Bool.true_and, unSnds, unStrms, cast_lt hlt, decide_eq_true hlt, next_at hlt hp.1, getD_at hy, hc, stI4]
      · simp only [outI4, hd, F.findI, hc, cond_true, F.found, F.got]
        rfl
  · have : k = l.length := by omega
    subst this
    left
    refine ⟨(.exit 0, ⟨[], []⟩), ?_, ?_, by simp, rfl⟩
    · rw [evI4L]; simp
    · simp [outI4, F.findI, F.found, T.val]

theorem evI4 (l : List Snd) (s : Strm) : (runF enI4 false Tryd.f77 [.sl (l.map eSnd), .fn 59 [.pel (eStrm s) 0]]).val =
  Option.bind (unenc stI41 (St.mk [(8, (vI (0 : Int))), (7, (vI (↑(List.length (List.map eSnd l)) : Int))), (1, AV.fn (59 : FuncId) [AV.pel [(vS s.name), (vS s.uri), (vI
  s.mean), (vI s.peak), (vI s.width), (vI s.height), (vS s.sound)] (0 : Nat)]), (0, AV.sl (List.map eSnd l))] [])) fun (z : List Snd × Strm × Nat) => bif decide (List.length
  z.fst ≤ (9223372036854775807 : Nat)) && decide (z.snd.snd ≤ List.length z.fst) && true then bif F.found (F.findI (fun (o : Snd) => F.seq o.group z.snd.fst.sound) z.snd.snd
  (List.drop z.snd.snd z.fst)) then some ((vI (↑(F.got (F.findI (fun (o : Snd) => F.seq o.group z.snd.fst.sound) z.snd.snd (List.drop z.snd.snd z.fst)) (0 : Nat)) : Int)),
  []) else some ((vI (-1 : Int)), []) else none := by kernel_rfl

def encI41 (l : List Snd) (s : Strm) : List AV := [.sl (l.map eSnd), .fn 59 [.pel (eStrm s) 0]]

def encI4 (a : (List Snd) × Strm) : List AV := encI41 a.1 a.2

theorem encI4_inj (a a' : (List Snd) × Strm) (h : encI4 a = encI4 a') : a = a' := by
  simp only [encI4, encI41] at h
  try simp [strs_inj, ents_inj, eEnt_iff, eLst_iff, eSnds_inj, eSnd_iff, eStrms_inj, eStrm_iff, eMas_iff] at h
  grind

theorem unI4 (l : List Snd) (s : Strm) : unenc encI4 ([AV.sl (List.map eSnd l), AV.fn (59 : FuncId) [AV.pel [(vS s.name), (vS s.uri), (vI s.mean), (vI s.peak), (vI s.width), (vI s.height), (vS s.sound)] (0 : Nat)]]) = some (l, s) := unenc_of encI4_inj (l, s) rfl

theorem unI4w (l : List Snd) (s_name : ByteArray) (s_uri : ByteArray) (s_mean : Int) (s_peak : Int) (s_width : Int) (s_height : Int) (s_sound : ByteArray) : unenc encI4 ([AV.sl (List.map eSnd l), AV.fn (59 : FuncId) [AV.pel [(vS s_name), (vS s_uri), (vI s_mean), (vI s_peak), (vI s_width), (vI s_height), (vS s_sound)] (0 : Nat)]]) = some (l, (Strm.mk s_name s_uri s_mean s_peak s_width s_height s_sound)) := unenc_of encI4_inj (l, (Strm.mk s_name s_uri s_mean s_peak s_width s_height s_sound)) rfl

def resI41 (l : List Snd) (s : Strm) : AV × Heap := (vI (F.idxI (F.findI (fun o => F.seq o.group s.sound) 0 l)), [])

def preI41 (l : List Snd) (s : Strm) : Bool := true

noncomputable def oI4 : Orc := orc 77 true encI4 (fun a => preI41 a.1 a.2) fun a => resI41 a.1 a.2

theorem okI4 : OrcOK Tryd.prog noG oI4 := by
  refine mk_ok Tryd.f77 (keep := false) (by kernel_rfl) (by kernel_rfl) enI4_ok mixed (one_loop (x0 := loopN Tryd.f77 0) (by kernel_rfl) (lpo_ok ?_)) (by first | exact fun _ _ => ⟨rfl, rfl⟩ | (intro h; cases h)) ?_
  · rintro ⟨l, s, k⟩ hp
    exact lpI4_ok l s k hp
  rintro ⟨l, s⟩ hpre hok
  show (runF enI4 false _ (encI41 _ _)).val = some (resI41 _ _)
  unfold encI41 resI41
  rw [evI4]
  have hx : l.length ≤ 9223372036854775807 := by simpa using (okA_sl (hok _ (List.mem_cons_self ..))).1
  simp only [unCl4, unCl4w, preCl41, unstI4, unstI40, prlI4, outI4, etaEnt, etaLst, etaSnd, etaStrm, etaMas, Option.bind_some, List.length_map, unStrs, unInts, unBools, unEnts, unItms, unTrns, cond_true, cond_false, Bool.and_true, Bool.true_and, unSnds, unStrms, hx, List.drop_zero, Nat.zero_le, decide_true, F.idxI]
  cases F.found (F.findI (fun o => F.seq o.group s.sound) 0 l) <;> rfl

noncomputable def enI4C : Env := envH ty noG lksS [oI4] [] [] []

theorem enI4C_ok : EnvOK Tryd.prog enI4C := by
  refine envH_ok lksS_ok ty_ok ?_ ?_
  · simp only [List.forall_mem_cons]
    exact ⟨okI4, by simp⟩
  · simp

theorem evI4C (l : List Snd) (s : Strm) : (runF enI4C false Tryd.f52 [.sl (l.map eSnd), .fn 59 [.pel (eStrm s) 0]]).val =
  Option.bind (unenc encI4 [AV.sl (List.map eSnd l), AV.fn (59 : FuncId) [AV.pel [(vS s.name), (vS s.uri), (vI s.mean), (vI s.peak), (vI s.width), (vI s.height), (vS
  s.sound)] (0 : Nat)]]) fun (z : List Snd × Strm) => some ((vB (decide ((0 : Int) ≤ F.idxI (F.findI (fun (o : Snd) => F.seq o.group z.snd.sound) (0 : Nat) z.fst)))), []) := by kernel_rfl

def encI4C1 (l : List Snd) (s : Strm) : List AV := [.sl (l.map eSnd), .fn 59 [.pel (eStrm s) 0]]

def encI4C (a : (List Snd) × Strm) : List AV := encI4C1 a.1 a.2

theorem encI4C_inj (a a' : (List Snd) × Strm) (h : encI4C a = encI4C a') : a = a' := by
  simp only [encI4C, encI4C1] at h
  try simp [strs_inj, ents_inj, eEnt_iff, eLst_iff, eSnds_inj, eSnd_iff, eStrms_inj, eStrm_iff, eMas_iff] at h
  grind

theorem unI4C (l : List Snd) (s : Strm) : unenc encI4C ([AV.sl (List.map eSnd l), AV.fn (59 : FuncId) [AV.pel [(vS s.name), (vS s.uri), (vI s.mean), (vI s.peak), (vI s.width), (vI s.height), (vS s.sound)] (0 : Nat)]]) = some (l, s) := unenc_of encI4C_inj (l, s) rfl

theorem unI4Cw (l : List Snd) (s_name : ByteArray) (s_uri : ByteArray) (s_mean : Int) (s_peak : Int) (s_width : Int) (s_height : Int) (s_sound : ByteArray) : unenc encI4C ([AV.sl (List.map eSnd l), AV.fn (59 : FuncId) [AV.pel [(vS s_name), (vS s_uri), (vI s_mean), (vI s_peak), (vI s_width), (vI s_height), (vS s_sound)] (0 : Nat)]]) = some (l, (Strm.mk s_name s_uri s_mean s_peak s_width s_height s_sound)) := unenc_of encI4C_inj (l, (Strm.mk s_name s_uri s_mean s_peak s_width s_height s_sound)) rfl

def resI4C1 (l : List Snd) (s : Strm) : AV × Heap := (vB (l.any (fun o => F.seq o.group s.sound)), [])

def preI4C1 (l : List Snd) (s : Strm) : Bool := true

noncomputable def oI4C : Orc := orc 52 true encI4C (fun a => preI4C1 a.1 a.2) fun a => resI4C1 a.1 a.2

theorem okI4C : OrcOK Tryd.prog noG oI4C := by
  refine mk_ok Tryd.f52 (keep := false) (by kernel_rfl) (by kernel_rfl) enI4C_ok mixed (no_loops (by kernel_rfl)) (by first | exact fun _ _ => ⟨rfl, rfl⟩ | (intro h; cases h)) ?_
  rintro ⟨l, s⟩ hpre hok
  show (runF enI4C false _ (encI4C1 _ _)).val = some (resI4C1 _ _)
  unfold encI4C1 resI4C1
  rw [evI4C]
  simp only [unI4, unI4w, preI41, etaEnt, etaLst, etaSnd, etaStrm, etaMas, Option.bind_some, List.length_map, unStrs, unInts, unBools, unEnts, unItms, unTrns, cond_true, cond_false, Bool.and_true, Bool.true_and, unSnds, unStrms, F.idx_any]


def encI12 (a : Bool × List Snd × Snd) : List AV := [.sl (a.2.1.map eSnd), .fn (bif a.1 then 53 else 55) [.pel (eSnd a.2.2) 0]]

theorem encI12_inj (a a' : Bool × List Snd × Snd) (h : encI12 a = encI12 a') : a = a' := by
  obtain ⟨w, l, s⟩ := a
  obtain ⟨w', l', s'⟩ := a'
  simp only [encI12] at h
  simp [eSnds_inj, eSnd_iff] at h
  obtain ⟨h1, h2, h3⟩ := h
  subst h1
  subst h3
  cases w <;> cases w' <;> simp_all

theorem unI12 (l : List Snd) (s : Snd) : unenc encI12 ([AV.sl (List.map eSnd l), AV.fn (53 : FuncId) [AV.pel [(vS s.group), (vS s.name), (vS s.lang), (vB s.dflt), (vS s.uri)] (0 : Nat)]]) = some (true, l, s) := unenc_of encI12_inj (true, l, s) rfl

theorem unI12b (l : List Snd) (s : Snd) : unenc encI12 ([AV.sl (List.map eSnd l), AV.fn (55 : FuncId) [AV.pel [(vS s.group), (vS s.name), (vS s.lang), (vB s.dflt), (vS s.uri)] (0 : Nat)]]) = some (false, l, s) := unenc_of encI12_inj (false, l, s) rfl

def preI121 (a : Bool × List Snd × Snd) : Bool := true

noncomputable def oI12 : Orc := orc 52 true encI12 preI121 fun a => (vB (a.2.1.any fun o => bif a.1 then F.sndTw a.2.2 o else F.sndDf a.2.2 o), [])

theorem okI12 : OrcOK Tryd.prog noG oI12 := by
  refine orc_ok okI1C.here (fun a _ _ => ?_) (fun _ _ => ⟨rfl, rfl⟩)
  obtain ⟨w, l, s⟩ := a
  cases w
  · exact orc_at okI2C encI2C_inj (l, s) rfl
  · exact orc_at okI1C encI1C_inj (l, s) rfl

noncomputable def enSnF : Env := envH ty noG lksS [oName, oI12, oLng2, oUri] [] [] []

theorem enSnF_ok : EnvOK Tryd.prog enSnF := by
  refine envH_ok lksS_ok ty_ok ?_ ?_
  · simp only [List.forall_mem_cons]
    exact ⟨okName, okI12, okLng2, okUri, by simp⟩
  · simp

theorem evSnF (s : Snd) (l : List Snd) : (runF enSnF false Tryd.f33 [.agg (eSnd s), .sl (l.map eSnd)]).val =
  Option.bind (unenc encName [(vS s.group)]) fun (z : ByteArray) => bif !!F.isName z then Option.bind (unenc encName [(vS s.name)]) fun (z_1 : ByteArray) => bif bif
  !F.isName z then true else !F.isName z_1 then some ((vI (5 : Int)), []) else Option.bind (unenc encI12 [AV.sl (List.map eSnd l), AV.fn (53 : Nat) [AV.pel [(vS s.group),
  (vS s.name), (vS s.lang), (vB s.dflt), (vS s.uri)] (0 : Nat)]]) fun (z : Bool × List Snd × Snd) => bif List.any z.snd.fst fun (o : Snd) => bif z.fst then F.sndTw z.snd.snd
  o else F.sndDf z.snd.snd o then some ((vI (7 : Int)), []) else Option.bind (unenc encLng2 [(vS s.lang)]) fun (z : ByteArray) => bif !F.lang z then some ((vI (3 : Int)),
  []) else bif s.dflt then bif s.dflt then Option.bind (unenc encI12 [AV.sl (List.map eSnd l), AV.fn (55 : Nat) [AV.pel [(vS s.group), (vS s.name), (vS s.lang), (vB s.dflt),
  (vS s.uri)] (0 : Nat)]]) fun (z : Bool × List Snd × Snd) => bif bif s.dflt then List.any z.snd.fst fun (o : Snd) => bif z.fst then F.sndTw z.snd.snd o else F.sndDf
  z.snd.snd o else false then some ((vI (12 : Int)), []) else Option.bind (unenc encUri [(vS s.uri)]) fun (z : ByteArray) => some ((vI (F.uriFault z)), []) else Option.bind
  (unenc encUri [(vS s.uri)]) fun (z : ByteArray) => some ((vI (F.uriFault z)), []) else bif s.dflt then Option.bind (unenc encI12 [AV.sl (List.map eSnd l), AV.unk]) fun (z
  : Bool × List Snd × Snd) => bif bif s.dflt then List.any z.snd.fst fun (o : Snd) => bif z.fst then F.sndTw z.snd.snd o else F.sndDf z.snd.snd o else false then some ((vI
  (12 : Int)), []) else Option.bind (unenc encUri [(vS s.uri)]) fun (z : ByteArray) => some ((vI (F.uriFault z)), []) else Option.bind (unenc encUri [(vS s.uri)]) fun (z :
  ByteArray) => some ((vI (F.uriFault z)), []) else bif !!F.isName z then none else some ((vI (5 : Int)), []) := by kernel_rfl

def encSnF1 (s : Snd) (l : List Snd) : List AV := [.agg (eSnd s), .sl (l.map eSnd)]

def encSnF (a : Snd × (List Snd)) : List AV := encSnF1 a.1 a.2

theorem encSnF_inj (a a' : Snd × (List Snd)) (h : encSnF a = encSnF a') : a = a' := by
  simp only [encSnF, encSnF1] at h
  try simp [strs_inj, ents_inj, eEnt_iff, eLst_iff, eSnds_inj, eSnd_iff, eStrms_inj, eStrm_iff, eMas_iff] at h
  grind

theorem unSnF (s : Snd) (l : List Snd) : unenc encSnF ([AV.agg [(vS s.group), (vS s.name), (vS s.lang), (vB s.dflt), (vS s.uri)], AV.sl (List.map eSnd l)]) = some (s, l) := unenc_of encSnF_inj (s, l) rfl

theorem unSnFw (s_group : ByteArray) (s_name : ByteArray) (s_lang : ByteArray) (s_dflt : Bool) (s_uri : ByteArray) (l : List Snd) : unenc encSnF ([AV.agg [(vS s_group), (vS s_name), (vS s_lang), (vB s_dflt), (vS s_uri)], AV.sl (List.map eSnd l)]) = some ((Snd.mk s_group s_name s_lang s_dflt s_uri), l) := unenc_of encSnF_inj ((Snd.mk s_group s_name s_lang s_dflt s_uri), l) rfl

def resSnF1 (s : Snd) (l : List Snd) : AV × Heap := (vI (F.sndF s l), [])

def preSnF1 (s : Snd) (l : List Snd) : Bool := true

noncomputable def oSnF : Orc := orc 33 true encSnF (fun a => preSnF1 a.1 a.2) fun a => resSnF1 a.1 a.2

theorem okSnF : OrcOK Tryd.prog noG oSnF := by
  refine mk_ok Tryd.f33 (keep := false) (by kernel_rfl) (by kernel_rfl) enSnF_ok mixed (no_loops (by kernel_rfl)) (by first | exact fun _ _ => ⟨rfl, rfl⟩ | (intro h; cases h)) ?_
  rintro ⟨s, l⟩ hpre hok
  show (runF enSnF false _ (encSnF1 _ _)).val = some (resSnF1 _ _)
  unfold encSnF1 resSnF1
  rw [evSnF]
  simp only [unName, unI12, unLng2, unUri, preName1, preI121, preLng21, preUri1, etaEnt, etaLst, etaSnd, etaStrm, etaMas, Option.bind_some, List.length_map, unStrs, unInts, unBools, unEnts, unItms, unTrns, cond_true, cond_false, Bool.and_true, Bool.true_and, unSnds, unStrms, F.sndF, unI12b]
  cases F.isName s.group
  · rfl
  cases F.isName s.name
  · rfl
  cases l.any (F.sndTw s)
  · cases F.lang s.lang
    · rfl
    · cases hd : s.dflt
      · rfl
      · simp only [cond_true, cond_false, Bool.not_true, Bool.not_false, Bool.or_self, Bool.true_and]
        cases l.any (F.sndDf s) <;> rfl
  · rfl

noncomputable def enStF : Env := envH ty noG lksS [oName, oI3C, oI4C, oUri, oOut] [] [] []

theorem enStF_ok : EnvOK Tryd.prog enStF := by
  refine envH_ok lksS_ok ty_ok ?_ ?_
  · simp only [List.forall_mem_cons]
    exact ⟨okName, okI3C, okI4C, okUri, okOut, by simp⟩
  · simp

theorem evStF (s : Strm) (l : List Strm) (m : List Snd) : (runF enStF false Tryd.f34 [.agg (eStrm s), .sl (l.map eStrm), .sl (m.map eSnd)]).val =
  Option.bind (unenc encName [(vS s.name)]) fun (z : ByteArray) => bif !F.isName z then some ((vI (5 : Int)), []) else Option.bind (unenc encI3C [AV.sl (List.map eStrm l),
  AV.fn (58 : Nat) [AV.pel [(vS s.name), (vS s.uri), (vI s.mean), (vI s.peak), (vI s.width), (vI s.height), (vS s.sound)] (0 : Nat)]]) fun (z : List Strm × Strm) => bif
  List.any z.fst fun (o : Strm) => F.seq o.name z.snd.name then some ((vI (7 : Int)), []) else Option.bind (unenc encUri [(vS s.uri)]) fun (z : ByteArray) => bif F.uriFault
  z != (0 : Int) then some ((vI (3 : Int)), []) else Option.bind (unenc encOut [(vI s.mean), (vI (1 : Int)), (vI (10000000000 : Int))]) fun (z : Int × Int × Int) => bif
  !F.out z.fst z.snd.fst z.snd.snd then Option.bind (unenc encOut [(vI s.peak), (vI s.mean), (vI (10000000000 : Int))]) fun (z_1 : Int × Int × Int) => bif bif F.out z.fst
  z.snd.fst z.snd.snd then true else F.out z_1.fst z_1.snd.fst z_1.snd.snd then some ((vI (1 : Int)), []) else Option.bind (unenc encOut [(vI s.width), (vI (0 : Int)), (vI
  (20000 : Int))]) fun (z : Int × Int × Int) => bif !F.out z.fst z.snd.fst z.snd.snd then Option.bind (unenc encOut [(vI s.height), (vI (0 : Int)), (vI (20000 : Int))]) fun
  (z_2 : Int × Int × Int) => bif bif bif F.out z.fst z.snd.fst z.snd.snd then true else F.out z_2.fst z_2.snd.fst z_2.snd.snd then true else !(s.width == (0 : Int)) ==
  (s.height == (0 : Int)) then some ((vI (1 : Int)), []) else bif !ByteArray.toList s.sound == ByteArray.toList (ByteArray.mk (Array.mk [])) then bif !ByteArray.toList
  s.sound == ByteArray.toList (ByteArray.mk (Array.mk [])) then Option.bind (unenc encI4C [AV.sl (List.map eSnd m), AV.fn (59 : Nat) [AV.pel [(vS s.name), (vS s.uri), (vI
  s.mean), (vI s.peak), (vI s.width), (vI s.height), (vS s.sound)] (0 : Nat)]]) fun (z : List Snd × Strm) => bif bif !ByteArray.toList s.sound == ByteArray.toList
  (ByteArray.mk (Array.mk [])) then !List.any z.fst fun (o : Snd) => F.seq o.group z.snd.sound else false then some ((vI (5 : Int)), []) else some ((vI (0 : Int)), []) else
  bif !ByteArray.toList s.sound == ByteArray.toList (ByteArray.mk (Array.mk [])) then none else some ((vI (0 : Int)), []) else bif !ByteArray.toList s.sound ==
  ByteArray.toList (ByteArray.mk (Array.mk [])) then Option.bind (unenc encI4C [AV.sl (List.map eSnd m), AV.unk]) fun (z : List Snd × Strm) => bif bif !ByteArray.toList
  s.sound == ByteArray.toList (ByteArray.mk (Array.mk [])) then !List.any z.fst fun (o : Snd) => F.seq o.group z.snd.sound else false then some ((vI (5 : Int)), []) else
  some ((vI (0 : Int)), []) else bif !ByteArray.toList s.sound == ByteArray.toList (ByteArray.mk (Array.mk [])) then none else some ((vI (0 : Int)), []) else some ((vI (1 :
  Int)), []) else some ((vI (1 : Int)), []) := by kernel_rfl

def encStF1 (s : Strm) (l : List Strm) (m : List Snd) : List AV := [.agg (eStrm s), .sl (l.map eStrm), .sl (m.map eSnd)]

def encStF (a : Strm × (List Strm) × (List Snd)) : List AV := encStF1 a.1 a.2.1 a.2.2

theorem encStF_inj (a a' : Strm × (List Strm) × (List Snd)) (h : encStF a = encStF a') : a = a' := by
  simp only [encStF, encStF1] at h
  try simp [strs_inj, ents_inj, eEnt_iff, eLst_iff, eSnds_inj, eSnd_iff, eStrms_inj, eStrm_iff, eMas_iff] at h
  grind

theorem unStF (s : Strm) (l : List Strm) (m : List Snd) : unenc encStF ([AV.agg [(vS s.name), (vS s.uri), (vI s.mean), (vI s.peak), (vI s.width), (vI s.height), (vS s.sound)], AV.sl (List.map eStrm l), AV.sl (List.map eSnd m)]) = some (s, l, m) := unenc_of encStF_inj (s, l, m) rfl

theorem unStFw (s_name : ByteArray) (s_uri : ByteArray) (s_mean : Int) (s_peak : Int) (s_width : Int) (s_height : Int) (s_sound : ByteArray) (l : List Strm) (m : List Snd) : unenc encStF ([AV.agg [(vS s_name), (vS s_uri), (vI s_mean), (vI s_peak), (vI s_width), (vI s_height), (vS s_sound)], AV.sl (List.map eStrm l), AV.sl (List.map eSnd m)]) = some ((Strm.mk s_name s_uri s_mean s_peak s_width s_height s_sound), l, m) := unenc_of encStF_inj ((Strm.mk s_name s_uri s_mean s_peak s_width s_height s_sound), l, m) rfl

def resStF1 (s : Strm) (l : List Strm) (m : List Snd) : AV × Heap := (vI (F.strmF s l m), [])

def preStF1 (s : Strm) (l : List Strm) (m : List Snd) : Bool := true

noncomputable def oStF : Orc := orc 34 true encStF (fun a => preStF1 a.1 a.2.1 a.2.2) fun a => resStF1 a.1 a.2.1 a.2.2

theorem okStF : OrcOK Tryd.prog noG oStF := by
  refine mk_ok Tryd.f34 (keep := false) (by kernel_rfl) (by kernel_rfl) enStF_ok mixed (no_loops (by kernel_rfl)) (by first | exact fun _ _ => ⟨rfl, rfl⟩ | (intro h; cases h)) ?_
  rintro ⟨s, l, m⟩ hpre hok
  show (runF enStF false _ (encStF1 _ _ _)).val = some (resStF1 _ _ _)
  unfold encStF1 resStF1
  rw [evStF]
  simp only [unName, unI3C, unI4C, unUri, unOut, unI3Cw, unI4Cw, preName1, preI3C1, preI4C1, preUri1, preOut1, etaEnt, etaLst, etaSnd, etaStrm, etaMas, Option.bind_some, List.length_map, unStrs, unInts, unBools, unEnts, unItms, unTrns, cond_true, cond_false, Bool.and_true, Bool.true_and, unSnds, unStrms, F.strmF, F.nonE, F.seq]
  cases F.isName s.name
  · rfl
  cases (l.any fun o => o.name.toList == s.name.toList)
  · cases F.uriFault s.uri != 0
    · cases F.out s.mean 1 10000000000
      · cases F.out s.peak s.mean 10000000000
        · cases F.out s.width 0 20000
          · cases F.out s.height 0 20000
            · cases (s.width == 0) <;> cases (s.height == 0) <;> first | rfl | (cases hd : (s.sound.toList == ByteArray.toList ⟨#[]⟩) <;> first | rfl | (simp only [cond_true, cond_false, Bool.not_true, Bool.not_false]; cases (m.any fun o => o.group.toList == s.sound.toList) <;> rfl))
            · cases (s.width == 0) <;> cases (s.height == 0) <;> rfl
          · rfl
        · rfl
      · rfl
    · rfl
  · rfl

end M
end Go.Proofs.YtipngpndgniagaaDoor
