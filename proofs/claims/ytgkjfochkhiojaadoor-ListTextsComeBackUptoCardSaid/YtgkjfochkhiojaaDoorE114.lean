/- What is proved here: a list is read as it was written, and the text of what was read is the text. -/
import Derived.Test.YtgkjfochkhiojaaDoorE113
import Derived.Test.YtgkjfochkhiojaaDoorE29
namespace Go.Proofs.YtgkjfochkhiojaaDoor
open Go Go.RowKit
set_option linter.unusedVariables false
set_option linter.unusedSimpArgs false
set_option maxHeartbeats 1000000

def F.xTg : ByteArray := ⟨⟨[35, 84, 65, 82, 71, 69, 84, 32]⟩⟩

def F.xFi : ByteArray := ⟨⟨[35, 70, 73, 82, 83, 84, 32]⟩⟩

def F.xBr : ByteArray := ⟨⟨[35, 66, 82, 69, 65, 75, 83, 32]⟩⟩

def F.h0 : ByteArray := F.kLst ++ ⟨⟨[10]⟩⟩

/-- The head of a list's text. -/
def F.hd3 (l : Lst) : ByteArray := F.pl (F.pl (F.pl F.h0 [F.xTg, F.itoa l.target]) [F.xFi, F.itoa l.first]) [F.xBr, F.itoa l.breaks]

def F.ltE (l : Lst) (x : ByteArray) : ByteArray := F.tE (F.hd3 l ++ x) ⟨⟨[]⟩⟩ l.entries

/-- A list's text. -/
def F.ltB (l : Lst) (x : ByteArray) : ByteArray := bif l.ended then F.pl (F.ltE l x) [F.kEnd] else F.ltE l x

theorem F.bs_nl : F.bs (⟨⟨[10]⟩⟩ : ByteArray) = [10] := rfl

theorem F.bs_p1 (s x : ByteArray) : F.bs (F.pl s [x]) = F.bs s ++ F.lnB x := by
  unfold F.pl F.lnB
  simp only [F.cat, F.bs_app, F.bs_nl, List.append_assoc]

theorem F.bs_p2 (s x y : ByteArray) : F.bs (F.pl s [x, y]) = F.bs s ++ F.lnB (x ++ y) := by
  unfold F.pl F.lnB
  simp only [F.cat, F.bs_app, F.bs_nl, List.append_assoc]

theorem F.bs_tX : ∀ (l : List ByteArray) (s : ByteArray), F.bs (F.tX s l) = F.bs s ++ F.txX l
  | [], s => by rw [F.tX, F.txX, List.append_nil]
  | x :: l, s => by rw [F.tX, F.bs_tX l, F.bs_p1, F.txX, List.append_assoc]

theorem F.bs_bE (s key : ByteArray) (e : Ent) : F.bs (F.bE s key e) = F.bs s ++ F.tx0 key e := by
  unfold F.bE F.bE' F.tx0 F.tx1 F.tx2 F.tx3 F.tx4 F.tx5 F.opt
  rw [F.bs_p1, F.bs_p2]
  have hX := F.bs_tX e.extra s
  generalize F.tX s e.extra = T at *
  unfold F.e1 F.e2 F.e3 F.e4
  cases e.brk <;> cases decide (0 ≤ e.date) <;> cases F.seq e.key key <;> cases e.gap <;> simp only [cond_true, cond_false, Bool.not_true, Bool.not_false, F.bs_p1, F.bs_p2, hX, List.append_assoc, List.nil_append]

theorem F.bs_tE : ∀ (l : List Ent) (s key : ByteArray), F.bs (F.tE s key l) = F.bs s ++ F.txEs key l
  | [], s, key => by rw [F.tE, F.txEs, List.append_nil]
  | e :: l, s, key => by rw [F.tE, F.bs_tE l, F.bs_bE, F.txEs, List.append_assoc]

theorem F.bs_ltB (l : Lst) (x : ByteArray) : F.bs (F.ltB l x) = F.txL l (F.bs x) := by
  have w1 : F.hdW F.wTg = F.xTg := F.bsx (by unfold F.hdW; rw [F.bs_app]; rfl)
  have w2 : F.hdW F.wFi = F.xFi := F.bsx (by unfold F.hdW; rw [F.bs_app]; rfl)
  have w3 : F.hdW F.wBr = F.xBr := F.bsx (by unfold F.hdW; rw [F.bs_app]; rfl)
  have hE : F.bs (F.ltE l x) = F.lnB F.kLst ++ (F.lnB (F.xTg ++ F.itoa l.target) ++ (F.lnB (F.xFi ++ F.itoa l.first) ++ (F.lnB (F.xBr ++ F.itoa l.breaks) ++ (F.bs x ++ F.txEs ⟨⟨[]⟩⟩ l.entries)))) := by
    unfold F.ltE F.hd3 F.h0
    rw [F.bs_tE, F.bs_app, F.bs_p2, F.bs_p2, F.bs_p2, F.bs_app]
    unfold F.lnB
    simp only [F.bs_nl, List.append_assoc]
  unfold F.ltB F.txL F.txEnd F.opt
  rw [w1, w2, w3]
  cases l.ended
  · rw [cond_false, cond_false, hE, List.append_nil]
  · rw [cond_true, cond_true, F.bs_p1, hE]
    simp only [List.append_assoc]

/-- How long an entry's words are. -/
structure F.ESz (e : Ent) : Prop where
  uri : e.uri.size ≤ 200
  key : e.key.size ≤ 40
  num : e.extra.length ≤ 20
  ext : ∀ x ∈ e.extra, x.size ≤ 300

theorem F.esz_of {e : Ent} {t : Int} (h : F.entryFault e t = 0) : F.ESz e := by
  have hk0 := (F.eok_of h).key
  unfold F.entryFault at h
  split at h
  · rename_i hu; exact absurd h hu
  rename_i hu
  split at h
  · omega
  split at h
  · omega
  split at h
  · omega
  split at h
  · omega
  split at h
  · omega
  rename_i hx
  have hu : F.uriFault e.uri = 0 := by simpa using hu
  unfold F.uriFault at hu
  split at hu
  · omega
  rename_i hq
  unfold F.out at hq
  simp only [Bool.or_eq_true, decide_eq_true_eq, not_or] at hq
  refine ⟨by omega, ?_, by omega, fun x hxm => ?_⟩
  · rcases hk0 with h1 | h1
    · rw [h1]; decide
    · unfold F.isName at h1
      simp only [Bool.and_eq_true, decide_eq_true_eq] at h1
      exact h1.1.1.2
  · have := F.ffI_all h x hxm
    unfold F.extraFault at this
    split at this
    · omega
    · split at this
      · omega
      · omega

theorem F.entW_of {e : Ent} (h1 : F.EOk e) (h2 : F.ESz e) : F.entW e = true := by
  have a := h1.mil1
  have b := h1.mil2
  have c := h1.dat2
  have d := h2.num
  unfold F.entW
  rw [decide_eq_true (by omega), decide_eq_true (by omega), decide_eq_true c, decide_eq_true (by omega)]
  rfl

theorem F.pl_1 (s x : ByteArray) : (F.pl s [x]).size = s.size + x.size + 1 := by
  unfold F.pl
  simp only [F.cat, ByteArray.size_append]
  rfl

theorem F.pl_2 (s x y : ByteArray) : (F.pl s [x, y]).size = s.size + x.size + y.size + 1 := by
  unfold F.pl
  simp only [F.cat, ByteArray.size_append]
  rfl

theorem F.tX_sz : ∀ (l : List ByteArray) (s : ByteArray), (∀ x ∈ l, x.size ≤ 300) → (F.tX s l).size ≤ s.size + 301 * l.length
  | [], s, _ => by rw [F.tX]; exact Nat.le_add_right _ _
  | x :: l, s, h => by
    have h1 := F.tX_sz l (F.pl s [x]) (fun y hy => h y (List.mem_cons_of_mem _ hy))
    have h2 := h x (List.mem_cons_self ..)
    rw [F.pl_1] at h1
    rw [F.tX, List.length_cons]
    omega

theorem F.bE_sz {s key : ByteArray} {e : Ent} (h1 : F.EOk e) (h2 : F.ESz e) : (F.bE s key e).size ≤ s.size + 10000 := by
  have hx := F.tX_sz e.extra s h2.ext
  have hn := h2.num
  have hu := h2.uri
  have hk := h2.key
  obtain ⟨m, hm⟩ := Int.eq_ofNat_of_zero_le (show 0 ≤ e.milli by have := h1.mil1; omega)
  have hm2 := h1.mil2
  have ht : (F.tmS e.milli).size ≤ 25 := by
    have e1 : F.tmS e.milli = F.itoa ((m / 1000 : Nat) : Int) ++ F.dot ++ F.pad ((m % 1000 : Nat) : Int) 3 := by rw [hm]; rfl
    have t1 := F.itoa_size (n := ((m / 1000 : Nat) : Int)) (by omega) (by omega)
    have t2 := F.pad_size' (m % 1000) (by omega)
    have t3 : F.dot.size = 1 := rfl
    rw [e1, ByteArray.size_append, ByteArray.size_append]
    omega
  have hd : 0 ≤ e.date → (F.dtS e.date).size = 24 := fun hd => by
    obtain ⟨k, hk⟩ := Int.eq_ofNat_of_zero_le hd
    have hd2 := h1.dat2
    have := (F.dtS_ok (n := k) (by omega)).1
    rw [← hk] at this
    unfold F.dtOk at this
    rw [Bool.and_eq_true, Bool.and_eq_true, decide_eq_true_eq] at this
    exact this.1.1
  have hs : (F.dsh e.key).size ≤ 40 := by
    unfold F.dsh
    cases F.seq e.key ⟨⟨[]⟩⟩
    · exact hk
    · show F.dash.size ≤ 40
      decide
  have z1 : F.kBrk.size = 6 := rfl
  have z2 : F.kDatS.size = 6 := rfl
  have z3 : F.kKeyS.size = 5 := rfl
  have z4 : F.kGap.size = 4 := rfl
  have z5 : F.kTimS.size = 6 := rfl
  have a1 : ∀ T : ByteArray, (F.e1 T e.brk).size ≤ T.size + 7 := fun T => by
    unfold F.e1
    cases e.brk
    · rw [cond_false]; omega
    · rw [cond_true, F.pl_1]; omega
  have a2 : ∀ T : ByteArray, (F.e2 T e.date).size ≤ T.size + 31 := fun T => by
    unfold F.e2
    by_cases h : 0 ≤ e.date
    · rw [decide_eq_true h, cond_true, F.pl_2, hd h]; omega
    · rw [decide_eq_false h, cond_false]; omega
  have a3 : ∀ T : ByteArray, (F.e3 T key e.key).size ≤ T.size + 46 := fun T => by
    unfold F.e3
    cases F.seq e.key key
    · rw [cond_false, F.pl_2]; omega
    · rw [cond_true]; omega
  have a4 : ∀ T : ByteArray, (F.e4 T e.gap).size ≤ T.size + 5 := fun T => by
    unfold F.e4
    cases e.gap
    · rw [cond_false]; omega
    · rw [cond_true, F.pl_1]; omega
  unfold F.bE F.bE'
  rw [F.pl_1, F.pl_2]
  have b1 := a1 (F.tX s e.extra)
  have b2 := a2 (F.e1 (F.tX s e.extra) e.brk)
  have b3 := a3 (F.e2 (F.e1 (F.tX s e.extra) e.brk) e.date)
  have b4 := a4 (F.e3 (F.e2 (F.e1 (F.tX s e.extra) e.brk) e.date) key e.key)
  omega

theorem F.tE_sz : ∀ (l : List Ent) (s key : ByteArray), (∀ e ∈ l, F.EOk e ∧ F.ESz e) → (F.tE s key l).size ≤ s.size + 10000 * l.length
  | [], s, key, _ => by rw [F.tE]; exact Nat.le_add_right _ _
  | e :: l, s, key, h => by
    obtain ⟨e1, e2⟩ := h e (List.mem_cons_self ..)
    have h1 := F.tE_sz l (F.bE s key e) e.key (fun y hy => h y (List.mem_cons_of_mem _ hy))
    have h2 := F.bE_sz (s := s) (key := key) e1 e2
    rw [F.tE, List.length_cons]
    omega

theorem F.check_sz {l : Lst} (h : F.check l = 0) : l.entries.length ≤ 1000 ∧ ∀ e ∈ l.entries, F.EOk e ∧ F.ESz e := by
  unfold F.check at h
  split at h
  · omega
  split at h
  · omega
  exact ⟨by omega, fun e he => ⟨F.eok_of (F.ffI_all h e he), F.esz_of (F.ffI_all h e he)⟩⟩

theorem F.hd3_sz {l : Lst} (h : F.check l = 0) : (F.hd3 l).size ≤ 200 ∧ 6 ≤ (F.hd3 l).size := by
  obtain ⟨c1, c2, c3, c4, c5, c6, c7⟩ := F.check_ok h
  have t1 := F.itoa_size (n := l.target) (by omega) (by omega)
  have t2 := F.itoa_size (n := l.first) (by omega) (by omega)
  have t3 := F.itoa_size (n := l.breaks) (by omega) (by omega)
  have z0 : F.h0.size = 6 := by unfold F.h0; rw [ByteArray.size_append]; rfl
  have z1 : F.xTg.size = 8 := rfl
  have z2 : F.xFi.size = 7 := rfl
  have z3 : F.xBr.size = 8 := rfl
  unfold F.hd3
  rw [F.pl_2, F.pl_2, F.pl_2]
  omega

/-- What Text returns. -/
def F.txt (l : Lst) : ByteArray × Int :=
  bif F.check l != 0 then (⟨⟨[]⟩⟩, F.check l) else bif decide (500000 < (F.ltB l ⟨⟨[]⟩⟩).size) then (⟨⟨[]⟩⟩, 2) else (F.ltB l ⟨⟨[]⟩⟩, 0)

theorem F.rdT_no {s : ByteArray} (h : (F.rdT s).2.2 ≠ 0) : (F.rdT s).1 = F.noL := by
  revert h
  unfold F.rdT
  cases decide (500000 < s.size)
  rotate_left
  · exact fun _ => rfl
  cases F.cutF s F.nl && F.seq (F.cutH s F.nl) F.kLst
  · exact fun _ => rfl
  cases F.hdOk (F.cutT s F.nl) F.wTg
  · exact fun _ => rfl
  cases F.hdOk (F.dr 1 (F.cutT s F.nl)) F.wFi
  · exact fun _ => rfl
  cases F.hdOk (F.dr 2 (F.cutT s F.nl)) F.wBr
  · exact fun _ => rfl
  cases (F.rdB (F.cutT s F.nl) 1).1
  · exact fun _ => rfl
  cases (F.check (F.rdG (F.cutT s F.nl) 1) != 0)
  · exact fun h => absurd rfl h
  · exact fun _ => rfl

/-- A list that is written is read. -/
theorem F.txt_rd {l : Lst} (h : (F.txt l).2 = 0) : F.rdT (F.txt l).1 = (l, 0, 0) := by
  unfold F.txt at h ⊢
  by_cases hc : F.check l = 0
  · rw [show (F.check l != 0) = false by simp [hc], cond_false] at h ⊢
    by_cases hz : 500000 < (F.ltB l ⟨⟨[]⟩⟩).size
    · rw [decide_eq_true hz] at h; cases h
    · rw [decide_eq_false hz, cond_false]
      exact F.tx_rd hc (by show (F.ltB l ⟨⟨[]⟩⟩).size ≤ 500000; omega) (by rw [F.bs_ltB]; rfl)
  · rw [show (F.check l != 0) = true by simp [hc], cond_true] at h
    exact absurd h hc

/-- A text that is read is written so. -/
theorem F.rd_txt {s : ByteArray} (h : (F.rdT s).2.2 = 0) : F.txt (F.rdT s).1 = (s, 0) := by
  obtain ⟨h1, h2, h3⟩ := F.rd_tx h
  have he : F.ltB (F.rdT s).1 ⟨⟨[]⟩⟩ = s := F.bsx (by rw [F.bs_ltB, h2]; rfl)
  unfold F.txt
  rw [he, h1, decide_eq_false (by omega)]
  rfl

namespace M


theorem evLtx (l : Lst) (x : ByteArray) : (runF enTx false Tryd.f10 [.agg (eLst l), vS x]).val =
  Option.bind (unenc encPut ([.own 900, .ptr 901 0 0], [(901, Blk.mk true 52 0 [[AV.v (Value.pointer none), AV.v (Value.slice none (0 : Nat) (0 : Nat))]]), (900, Blk.mk false 9 1 [[(vS (ByteArray.mk (Array.mk [(35 : UInt8), (76 : UInt8), (73 : UInt8), (83 : UInt8), (84 : UInt8)])))]])])) fun (z : Option ByteArray × List ByteArray) => bif F.putB z.fst z.snd then bif match z.fst with | some val => false | none => true then Option.bind (unenc encIta [(vI l.target)]) fun (z_1 : Int) => bif decide ((-9223372036854775808 : Int) ≤ z_1) && decide (z_1 ≤ (9223372036854775807 : Int)) then Option.bind (unenc encPut ([.own 900, .ptr 901 0 0], [(902, Blk.mk false 5 1 (F.eUs ((match z.snd, ByteArray.mk (Array.mk []) with | [], fallback => fallback | a :: tail, x => a) ++ ByteArray.mk (Array.mk [(10 : UInt8)])))), (901, Blk.mk true 52 0 [[.ptr 901 0 0, .own 902]]), (900, Blk.mk false 9 1 [[(vS (ByteArray.mk (Array.mk [(35 : UInt8), (84 : UInt8), (65 : UInt8), (82 : UInt8), (71 : UInt8), (69 : UInt8), (84 : UInt8), (32 : UInt8)])))], [(vS (F.itoa z_1))]])])) fun (z : Option ByteArray × List ByteArray) => bif F.putB z.fst z.snd then bif match z.fst with | some val => false | none => true then none else Option.bind (unenc encIta [(vI l.first)]) fun (z_2 : Int) => bif decide ((-9223372036854775808 : Int) ≤ z_2) && decide (z_2 ≤ (9223372036854775807 : Int)) then Option.bind (unenc encPut ([.own 900, .ptr 901 0 0], [(902, Blk.mk false 5 1 (F.eUs (F.cat (F.bldS z.fst) z.snd ++ ByteArray.mk (Array.mk [(10 : UInt8)])))), (901, Blk.mk true 52 0 [[.ptr 901 0 0, .own 902]]), (900, Blk.mk false 9 1 [[(vS (ByteArray.mk (Array.mk [(35 : UInt8), (70 : UInt8), (73 : UInt8), (82 : UInt8), (83 : UInt8), (84 : UInt8), (32 : UInt8)])))], [(vS (F.itoa z_2))]])])) fun (z : Option ByteArray × List ByteArray) => bif F.putB z.fst z.snd then bif match z.fst with | some val => false | none => true then none else Option.bind (unenc encIta [(vI l.breaks)]) fun (z_3 : Int) => bif decide ((-9223372036854775808 : Int) ≤ z_3) && decide (z_3 ≤ (9223372036854775807 : Int)) then Option.bind (unenc encPut ([.own 900, .ptr 901 0 0], [(902, Blk.mk false 5 1 (F.eUs (F.cat (F.bldS z.fst) z.snd ++ ByteArray.mk (Array.mk [(10 : UInt8)])))), (901, Blk.mk true 52 0 [[.ptr 901 0 0, .own 902]]), (900, Blk.mk false 9 1 [[(vS (ByteArray.mk (Array.mk [(35 : UInt8), (66 : UInt8), (82 : UInt8), (69 : UInt8), (65 : UInt8), (75 : UInt8), (83 : UInt8), (32 : UInt8)])))], [(vS (F.itoa z_3))]])])) fun (z : Option ByteArray × List ByteArray) => bif F.putB z.fst z.snd then bif match z.fst with | some val => false | none => true then none else Option.bind (unenc encWst ([.ptr 900 0 0, (vS x)], [(901, Blk.mk false 5 1 (F.eUs (F.cat (F.bldS z.fst) z.snd ++ ByteArray.mk (Array.mk [(10 : UInt8)])))), (900, Blk.mk true 52 0 [[.ptr 900 0 0, .own 901]])])) fun (z : Option ByteArray × ByteArray) => bif F.wstB z.fst z.snd then bif match z.fst with | some val => false | none => true then none else Option.bind (unenc stTx11 (St.mk [(43, (vI (0 : Int))), (42, (vI (↑(List.length (List.map eEnt l.entries)) : Int))), (41, AV.sl (List.map eEnt l.entries)), (7, (vS (ByteArray.mk (Array.mk [])))), (6, AV.fn (17 : Nat) [.ptr 5 0 0]), (5, .ptr 5 0 0), (2, .ptr 2 0 0)] [(20000, Blk.mk false 5 1 (F.eUs (F.bldS z.fst ++ z.snd))), (5, Blk.mk true 52 0 [[.ptr 5 0 0, .own 20000]]), (2, Blk.mk true 0 0 [[(vI l.target), (vI l.first), (vI l.breaks), AV.sl (List.map eEnt l.entries), (vB l.ended)]])])) fun (z : Int × Int × Int × List Ent × Bool × ByteArray × ByteArray × Nat) => bif decide (List.length z.snd.snd.snd.fst ≤ (1000 : Nat)) && decide (z.snd.snd.snd.snd.snd.snd.snd ≤ List.length z.snd.snd.snd.fst) && List.all z.snd.snd.snd.fst F.entW && F.tEB z.snd.snd.snd.snd.snd.fst z.snd.snd.snd.snd.snd.snd.fst (List.drop z.snd.snd.snd.snd.snd.snd.snd z.snd.snd.snd.fst) && true then bif z.snd.snd.snd.snd.fst then Option.bind (unenc encPut ([.own 900, .ptr 901 0 0], [(902, Blk.mk false 5 1 (F.eUs (F.tE z.snd.snd.snd.snd.snd.fst z.snd.snd.snd.snd.snd.snd.fst (List.drop z.snd.snd.snd.snd.snd.snd.snd z.snd.snd.snd.fst)))), (901, Blk.mk true 52 0 [[.ptr 901 0 0, .own 902]]), (900, Blk.mk false 9 1 [[(vS (ByteArray.mk (Array.mk [(35 : UInt8), (69 : UInt8), (78 : UInt8), (68 : UInt8)])))]])])) fun (z : Option ByteArray × List ByteArray) => bif F.putB z.fst z.snd then bif match z.fst with | some val => false | none => true then none else Option.bind (unenc encBst ([.ptr 900 0 0], [(901, Blk.mk false 5 1 (F.eUs (F.cat (F.bldS z.fst) z.snd ++ ByteArray.mk (Array.mk [(10 : UInt8)])))), (900, Blk.mk true 52 0 [[.ptr 900 0 0, .own 901]])])) fun (z : Option ByteArray) => bif F.bstB z then bif match z with | some val => false | none => true then none else some ((vS (F.bldS z)), []) else none else none else Option.bind (unenc encBst ([.ptr 900 0 0], [(901, Blk.mk false 5 1 (F.eUs (F.tE z.snd.snd.snd.snd.snd.fst z.snd.snd.snd.snd.snd.snd.fst (List.drop z.snd.snd.snd.snd.snd.snd.snd z.snd.snd.snd.fst)))), (900, Blk.mk true 52 0 [[.ptr 900 0 0, .own 901]])])) fun (z : Option ByteArray) => bif F.bstB z then bif match z with | some val => false | none => true then none else some ((vS (F.bldS z)), []) else none else none else none else none else none else none else none else none else none else none else none := (runFR_val).symm.trans (by kernel_rfl)

def encLtx1 (l : Lst) (x : ByteArray) : List AV := [.agg (eLst l), vS x]

def encLtx (a : Lst × ByteArray) : List AV := encLtx1 a.1 a.2

theorem encLtx_inj (a a' : Lst × ByteArray) (h : encLtx a = encLtx a') : a = a' := by
  simp only [encLtx, encLtx1] at h
  try simp [eUs_inj, strs_inj, ints_inj, ents_inj, eEnt_iff, eLst_iff, eSnds_inj, eStrms_inj] at h
  grind

theorem unLtx (l : Lst) (x : ByteArray) : unenc encLtx ([AV.agg [(vI l.target), (vI l.first), (vI l.breaks), AV.sl (List.map eEnt l.entries), (vB l.ended)], (vS x)]) = some (l, x) := unenc_of encLtx_inj (l, x) rfl

theorem unLtxw (l_target : Int) (l_first : Int) (l_breaks : Int) (l_entries : List Ent) (l_ended : Bool) (x : ByteArray) : unenc encLtx ([AV.agg [(vI l_target), (vI l_first), (vI l_breaks), AV.sl (List.map eEnt l_entries), (vB l_ended)], (vS x)]) = some ((Lst.mk l_target l_first l_breaks l_entries l_ended), x) := unenc_of encLtx_inj ((Lst.mk l_target l_first l_breaks l_entries l_ended), x) rfl

def resLtx1 (l : Lst) (x : ByteArray) : AV × Heap := (vS (F.ltB l x), [])

def preLtx1 (l : Lst) (x : ByteArray) : Bool := decide (F.check l = 0) && decide (x.size ≤ 100)

noncomputable def oLtx : Orc := orc 10 true encLtx (fun a => preLtx1 a.1 a.2) fun a => resLtx1 a.1 a.2

theorem okLtx : OrcOK Tryd.prog noG oLtx := by
  refine mk_ok Tryd.f10 (keep := false) (by kernel_rfl) (by kernel_rfl) enTx_ok mixed (two_loops (x0 := loopN Tryd.f10 0) (x1 := loopN Tryd.f10 1) (by kernel_rfl) (lpo_ok ?_) (lpo_ok ?_)) (by first | exact fun _ _ => ⟨rfl, rfl⟩ | (intro h; cases h)) ?_
  · rintro ⟨t, f, b, es, en, s, key, i⟩ hp
    exact lpTx1_ok t f b es en s key i hp
  · rintro ⟨t, f, b, es, en, i, key, u, m, br, d, ky, g, x, s, j⟩ hp
    exact lpTx2_ok t f b es en i key u m br d ky g x s j hp
  rintro ⟨l, x⟩ hpre hok
  show (runF enTx false _ (encLtx1 _ _)).val = some (resLtx1 _ _)
  unfold encLtx1 resLtx1
  rw [evLtx]
  simp only [preLtx1, Bool.and_eq_true, decide_eq_true_eq] at hpre
  obtain ⟨hc, hx⟩ := hpre
  obtain ⟨c1, c2, c3, c4, c5, c6, c7⟩ := F.check_ok hc
  obtain ⟨s1, s2⟩ := F.check_sz hc
  obtain ⟨s3, s4⟩ := F.hd3_sz hc
  have qL : (⟨⟨[35, 76, 73, 83, 84]⟩⟩ : ByteArray) = F.kLst := rfl
  have q1 : (⟨⟨[35, 84, 65, 82, 71, 69, 84, 32]⟩⟩ : ByteArray) = F.xTg := rfl
  have q2 : (⟨⟨[35, 70, 73, 82, 83, 84, 32]⟩⟩ : ByteArray) = F.xFi := rfl
  have q3 : (⟨⟨[35, 66, 82, 69, 65, 75, 83, 32]⟩⟩ : ByteArray) = F.xBr := rfl
  have qE : (⟨⟨[35, 69, 78, 68]⟩⟩ : ByteArray) = F.kEnd := rfl
  simp only [unIta, unWst, unBst, preIta1, unstTx1, unstTx10, prlTx1, outTx1, etaEnt, etaLst, Option.bind_some, List.length_map, cond_true, cond_false, Bool.and_true, Bool.true_and, unWstU, unBstU, F.bldS_some, F.bldLen_some, unPut0, unPut1, unPut2, resPut, fpl, resWst, qL, q1, q2, q3, qE, List.drop_zero]
  have k0 : F.putB none [F.kLst] = true := rfl
  have f0 : F.kLst ++ (⟨⟨[10]⟩⟩ : ByteArray) = F.h0 := rfl
  have f3 : F.pl (F.pl (F.pl F.h0 [F.xTg, F.itoa l.target]) [F.xFi, F.itoa l.first]) [F.xBr, F.itoa l.breaks] = F.hd3 l := rfl
  have p1 := F.pl_le (F.pl F.h0 [F.xTg, F.itoa l.target]) [F.xFi, F.itoa l.first]
  have p2 := F.pl_le (F.pl (F.pl F.h0 [F.xTg, F.itoa l.target]) [F.xFi, F.itoa l.first]) [F.xBr, F.itoa l.breaks]
  rw [f3] at p2
  have hz : (F.hd3 l ++ x).size = (F.hd3 l).size + x.size := ByteArray.size_append
  have hT := F.tE_sz l.entries (F.hd3 l ++ x) ⟨⟨[]⟩⟩ s2
  have hL := F.tE_le l.entries (F.hd3 l ++ x) ⟨⟨[]⟩⟩
  have hw : l.entries.all F.entW = true := List.all_eq_true.2 fun e he => F.entW_of (s2 e he).1 (s2 e he).2
  have fE : F.tE (F.hd3 l ++ x) ⟨⟨[]⟩⟩ l.entries = F.ltE l x := rfl
  rw [fE] at hT hL
  have he1 := F.pl_1 (F.ltE l x) F.kEnd
  have he2 : F.kEnd.size = 4 := rfl
  have P : F.tEB (F.hd3 l ++ x) ⟨⟨[]⟩⟩ l.entries = true := F.tEB_iff.2 (by rw [fE]; omega)
  rw [k0, f0, pre_ok F.h0 [F.xTg, F.itoa l.target] (Nat.le_of_ble_eq_true rfl) (by omega), pre_ok (F.pl F.h0 [F.xTg, F.itoa l.target]) [F.xFi, F.itoa l.first] (Nat.le_of_ble_eq_true rfl) (by omega), pre_ok (F.pl (F.pl F.h0 [F.xTg, F.itoa l.target]) [F.xFi, F.itoa l.first]) [F.xBr, F.itoa l.breaks] (Nat.le_of_ble_eq_true rfl) (by rw [f3]; omega)]
  rw [f3, P, hw, decide_eq_true s1, decide_eq_true (Nat.zero_le l.entries.length), F.wstB_some (by omega : (F.hd3 l).size + x.size ≤ 140737488355328), fE, pre_ok (F.ltE l x) [F.kEnd] (Nat.le_of_ble_eq_true rfl) (by omega)]
  rw [decide_eq_true (by omega : -9223372036854775808 ≤ l.target), decide_eq_true (by omega : l.target ≤ 9223372036854775807), decide_eq_true (by omega : -9223372036854775808 ≤ l.first), decide_eq_true (by omega : l.first ≤ 9223372036854775807), decide_eq_true (by omega : -9223372036854775808 ≤ l.breaks), decide_eq_true (by omega : l.breaks ≤ 9223372036854775807)]
  rw [F.bstB_some (by omega : 0 < (F.pl (F.ltE l x) [F.kEnd]).size), F.bstB_some (by omega : 0 < (F.ltE l x).size)]
  unfold F.ltB
  cases l.ended <;> rfl

theorem evBnd (s : ByteArray) : (runF en0 false Tryd.f9 [vS s]).val =
  bif decide ((500000 : Int) < (↑(ByteArray.size s) : Int)) then some (AV.tup [(vS (ByteArray.mk (Array.mk []))), (vI (2 : Int))], []) else some (AV.tup [(vS s), (vI (0 :
  Int))], []) := (runFR_val).symm.trans (by kernel_rfl)

def encBnd1 (s : ByteArray) : List AV := [vS s]

def encBnd (a : ByteArray) : List AV := encBnd1 a

theorem encBnd_inj (a a' : ByteArray) (h : encBnd a = encBnd a') : a = a' := by
  simp only [encBnd, encBnd1] at h
  try simp [eUs_inj, strs_inj, ints_inj, ents_inj, eEnt_iff, eLst_iff, eSnds_inj, eStrms_inj] at h
  grind

theorem unBnd (s : ByteArray) : unenc encBnd ([(vS s)]) = some (s) := unenc_of encBnd_inj (s) rfl

def resBnd1 (s : ByteArray) : AV × Heap := (.tup [vS (bif decide (500000 < s.size) then ⟨⟨[]⟩⟩ else s), vI (bif decide (500000 < s.size) then 2 else 0)], [])

def preBnd1 (s : ByteArray) : Bool := true

noncomputable def oBnd : Orc := orc 9 true encBnd (fun a => preBnd1 a) fun a => resBnd1 a

theorem okBnd : OrcOK Tryd.prog noG oBnd := by
  refine mk_ok Tryd.f9 (keep := false) (by kernel_rfl) (by kernel_rfl) en0_ok mixed (no_loops (by kernel_rfl)) (by first | exact fun _ _ => ⟨rfl, rfl⟩ | (intro h; cases h)) ?_
  rintro s hpre hok
  show (runF en0 false _ (encBnd1 _)).val = some (resBnd1 _)
  unfold encBnd1 resBnd1
  rw [evBnd]
  have e1 : decide ((500000 : Int) < (s.size : Int)) = decide (500000 < s.size) := decide_eq_decide.2 (by omega)
  simp only [etaEnt, etaLst, etaSnd, etaStrm, etaMas, Option.bind_some, List.length_map, unStrs, unInts, unBools, unEnts, unItms, unTrns, cond_true, cond_false, Bool.and_true, Bool.true_and, unWstU, unBstU, F.bldS_some, F.bldLen_some, e1]
  cases decide (500000 < s.size) <;> rfl

noncomputable def enTxt : Env := envH ty noG lks [oChk, oLtx, oBnd] [] [] []

theorem enTxt_ok : EnvOK Tryd.prog enTxt := by
  refine envH_ok lks_ok ty_ok ?_ ?_
  · simp only [List.forall_mem_cons]
    exact ⟨okChk, okLtx, okBnd, by simp⟩
  · simp

theorem evTxt (l : Lst) : (runF enTxt false Tryd.f4 [.agg (eLst l)]).val =
  Option.bind (unenc encChk [AV.agg [(vI l.target), (vI l.first), (vI l.breaks), AV.sl (List.map eEnt l.entries), (vB l.ended)]]) fun (z : Lst) => bif F.check z != (0 : Int)
  then some (AV.tup [(vS (ByteArray.mk (Array.mk []))), (vI (F.check z))], []) else Option.bind (unenc encLtx [AV.agg [(vI l.target), (vI l.first), (vI l.breaks), AV.sl
  (List.map eEnt l.entries), (vB l.ended)], (vS (ByteArray.mk (Array.mk [])))]) fun (z : Lst × ByteArray) => bif decide (F.check z.fst = (0 : Int)) && decide (ByteArray.size
  z.snd ≤ (100 : Nat)) then Option.bind (unenc encBnd [(vS (F.ltB z.fst z.snd))]) fun (z : ByteArray) => some (AV.tup [(vS (bif decide ((500000 : Nat) < ByteArray.size z)
  then ByteArray.mk (Array.mk []) else z)), (vI (bif decide ((500000 : Nat) < ByteArray.size z) then (2 : Int) else (0 : Int)))], []) else none := (runFR_val).symm.trans (by kernel_rfl)

def encTxt1 (l : Lst) : List AV := [.agg (eLst l)]

def encTxt (a : Lst) : List AV := encTxt1 a

theorem encTxt_inj (a a' : Lst) (h : encTxt a = encTxt a') : a = a' := by
  simp only [encTxt, encTxt1] at h
  try simp [eUs_inj, strs_inj, ints_inj, ents_inj, eEnt_iff, eLst_iff, eSnds_inj, eStrms_inj] at h
  grind

theorem unTxt (l : Lst) : unenc encTxt ([AV.agg [(vI l.target), (vI l.first), (vI l.breaks), AV.sl (List.map eEnt l.entries), (vB l.ended)]]) = some (l) := unenc_of encTxt_inj (l) rfl

theorem unTxtw (l_target : Int) (l_first : Int) (l_breaks : Int) (l_entries : List Ent) (l_ended : Bool) : unenc encTxt ([AV.agg [(vI l_target), (vI l_first), (vI l_breaks), AV.sl (List.map eEnt l_entries), (vB l_ended)]]) = some ((Lst.mk l_target l_first l_breaks l_entries l_ended)) := unenc_of encTxt_inj ((Lst.mk l_target l_first l_breaks l_entries l_ended)) rfl

def resTxt1 (l : Lst) : AV × Heap := (.tup [vS (F.txt l).1, vI (F.txt l).2], [])

def preTxt1 (l : Lst) : Bool := true

noncomputable def oTxt : Orc := orc 4 true encTxt (fun a => preTxt1 a) fun a => resTxt1 a

theorem okTxt : OrcOK Tryd.prog noG oTxt := by
  refine mk_ok Tryd.f4 (keep := false) (by kernel_rfl) (by kernel_rfl) enTxt_ok mixed (no_loops (by kernel_rfl)) (by first | exact fun _ _ => ⟨rfl, rfl⟩ | (intro h; cases h)) ?_
  rintro l hpre hok
  show (runF enTxt false _ (encTxt1 _)).val = some (resTxt1 _)
  unfold encTxt1 resTxt1
  rw [evTxt]
  have z0 : decide ((⟨⟨[]⟩⟩ : ByteArray).size ≤ 100) = true := rfl
  simp only [unChk, unLtx, unBnd, unChkw, unLtxw, preChk1, preLtx1, preBnd1, etaEnt, etaLst, etaSnd, etaStrm, etaMas, Option.bind_some, List.length_map, unStrs, unInts, unBools, unEnts, unItms, unTrns, cond_true, cond_false, Bool.and_true, Bool.true_and, unWstU, unBstU, F.bldS_some, F.bldLen_some, z0]
  unfold F.txt
  by_cases hc : F.check l = 0
  · rw [show (F.check l != 0) = false by simp [hc], decide_eq_true hc]
    cases decide (500000 < (F.ltB l ⟨⟨[]⟩⟩).size) <;> rfl
  · rw [show (F.check l != 0) = true by simp [hc]]
    rfl

noncomputable def enLTB : Env := envH ty noG lks [oTxt, oRea, oSmL, oAwk] [] [] []

theorem enLTB_ok : EnvOK Tryd.prog enLTB := by
  refine envH_ok lks_ok ty_ok ?_ ?_
  · simp only [List.forall_mem_cons]
    exact ⟨okTxt, okRea, okSmL, okAwk, by simp⟩
  · simp

theorem evLTB (l : Lst) (s : ByteArray) : (runF enLTB false Tryd.f3 [.agg (eLst l), vS s]).val =
  Option.bind (unenc encTxt [AV.agg [(vI l.target), (vI l.first), (vI l.breaks), AV.sl (List.map eEnt l.entries), (vB l.ended)]]) fun (z : Lst) => bif (F.txt z).snd == (0 :
  Int) then Option.bind (unenc encRea [(vS (F.txt z).fst)]) fun (z : ByteArray) => bif !bif (F.rdT z).snd.snd != (0 : Int) then true else (F.rdT z).snd.fst != (0 : Int) then
  Option.bind (unenc encSmL [AV.agg [(vI (F.rdT z).fst.target), (vI (F.rdT z).fst.first), (vI (F.rdT z).fst.breaks), AV.sl (List.map eEnt (F.rdT z).fst.entries), (vB (F.rdT
  z).fst.ended)], AV.agg [(vI l.target), (vI l.first), (vI l.breaks), AV.sl (List.map eEnt l.entries), (vB l.ended)]]) fun (z : Lst × Lst) => bif !F.sameL z.fst z.snd then
  some ((vB false), []) else Option.bind (unenc encRea [(vS s)]) fun (z : ByteArray) => bif (F.rdT z).snd.snd != (0 : Int) then bif (↑(List.length (List.map eEnt (F.rdT
  z).fst.entries)) : Int) == (0 : Int) then Option.bind (unenc encAwk []) fun (z : Unit) => some ((vB true), []) else some ((vB false), []) else Option.bind (unenc encTxt
  [AV.agg [(vI (F.rdT z).fst.target), (vI (F.rdT z).fst.first), (vI (F.rdT z).fst.breaks), AV.sl (List.map eEnt (F.rdT z).fst.entries), (vB (F.rdT z).fst.ended)]]) fun (z :
  Lst) => bif bif (F.txt z).snd == (0 : Int) then ByteArray.toList (F.txt z).fst == ByteArray.toList s else false then Option.bind (unenc encAwk []) fun (z : Unit) => some
  ((vB true), []) else some ((vB false), []) else some ((vB false), []) else Option.bind (unenc encRea [(vS s)]) fun (z : ByteArray) => bif (F.rdT z).snd.snd != (0 : Int)
  then bif (↑(List.length (List.map eEnt (F.rdT z).fst.entries)) : Int) == (0 : Int) then Option.bind (unenc encAwk []) fun (z : Unit) => some ((vB true), []) else some ((vB
  false), []) else Option.bind (unenc encTxt [AV.agg [(vI (F.rdT z).fst.target), (vI (F.rdT z).fst.first), (vI (F.rdT z).fst.breaks), AV.sl (List.map eEnt (F.rdT
  z).fst.entries), (vB (F.rdT z).fst.ended)]]) fun (z : Lst) => bif bif (F.txt z).snd == (0 : Int) then ByteArray.toList (F.txt z).fst == ByteArray.toList s else false then
  Option.bind (unenc encAwk []) fun (z : Unit) => some ((vB true), []) else some ((vB false), []) := (runFR_val).symm.trans (by kernel_rfl)

def encLTB1 (l : Lst) (s : ByteArray) : List AV := [.agg (eLst l), vS s]

def encLTB (a : Lst × ByteArray) : List AV := encLTB1 a.1 a.2

theorem encLTB_inj (a a' : Lst × ByteArray) (h : encLTB a = encLTB a') : a = a' := by
  simp only [encLTB, encLTB1] at h
  try simp [eUs_inj, strs_inj, ints_inj, ents_inj, eEnt_iff, eLst_iff, eSnds_inj, eStrms_inj] at h
  grind

theorem unLTB (l : Lst) (s : ByteArray) : unenc encLTB ([AV.agg [(vI l.target), (vI l.first), (vI l.breaks), AV.sl (List.map eEnt l.entries), (vB l.ended)], (vS s)]) = some (l, s) := unenc_of encLTB_inj (l, s) rfl

theorem unLTBw (l_target : Int) (l_first : Int) (l_breaks : Int) (l_entries : List Ent) (l_ended : Bool) (s : ByteArray) : unenc encLTB ([AV.agg [(vI l_target), (vI l_first), (vI l_breaks), AV.sl (List.map eEnt l_entries), (vB l_ended)], (vS s)]) = some ((Lst.mk l_target l_first l_breaks l_entries l_ended), s) := unenc_of encLTB_inj ((Lst.mk l_target l_first l_breaks l_entries l_ended), s) rfl

def resLTB1 (l : Lst) (s : ByteArray) : AV × Heap := (vB true, [])

def preLTB1 (l : Lst) (s : ByteArray) : Bool := true

noncomputable def oLTB : Orc := orc 3 true encLTB (fun a => preLTB1 a.1 a.2) fun a => resLTB1 a.1 a.2

theorem okLTB : OrcOK Tryd.prog noG oLTB := by
  refine mk_ok Tryd.f3 (keep := false) (by kernel_rfl) (by kernel_rfl) enLTB_ok mixed (no_loops (by kernel_rfl)) (by first | exact fun _ _ => ⟨rfl, rfl⟩ | (intro h; cases h)) ?_
  rintro ⟨l, s⟩ hpre hok
  show (runF enLTB false _ (encLTB1 _ _)).val = some (resLTB1 _ _)
  unfold encLTB1 resLTB1
  rw [evLTB]
  simp only [unTxt, unRea, unSmL, unAwk, unTxtw, unSmLw, preTxt1, preRea1, preSmL1, preAwk1, etaEnt, etaLst, etaSnd, etaStrm, etaMas, Option.bind_some, List.length_map, unStrs, unInts, unBools, unEnts, unItms, unTrns, cond_true, cond_false, Bool.and_true, Bool.true_and, unWstU, unBstU, F.bldS_some, F.bldLen_some]
  have e3 : ((F.txt (F.rdT s).1).1.toList == s.toList) = F.seq (F.txt (F.rdT s).1).1 s := rfl
  rw [e3]
  have tail : (bif (F.rdT s).2.2 != 0 then (bif (((F.rdT s).1.entries.length : Int) == 0) then some (vB true, ([] : Heap)) else some (vB false, [])) else bif (bif (F.txt (F.rdT s).1).2 == 0 then F.seq (F.txt (F.rdT s).1).1 s else false) then some (vB true, []) else some (vB false, [])) = some (vB true, []) := by
    by_cases h : (F.rdT s).2.2 = 0
    · rw [show ((F.rdT s).2.2 != 0) = false by simp [h], F.rd_txt h, F.seq_refl]
      rfl
    · rw [show ((F.rdT s).2.2 != 0) = true by simp [h], F.rdT_no h]
      rfl
  rw [tail]
  by_cases h : (F.txt l).2 = 0
  · rw [F.txt_rd h, h, F.sameL_refl]
    rfl
  · rw [show ((F.txt l).2 == 0) = false by simp [h]]
    rfl

end M
end Go.Proofs.YtgkjfochkhiojaaDoor
