/- What is proved here: the contract of the reference's levels: its parts by the machine, the call of Concat by hand (no statement of the seat). -/
import Derived.Test.YtnkaadiofjoacaaB105
namespace Go.Proofs.Ytnkaadiofjoacaa
open Go Go.RowKit
set_option linter.unusedVariables false
set_option linter.unusedSimpArgs false
set_option maxHeartbeats 2000000

namespace M

theorem evRlA (l : List Beat) (q : Int) : (exec enRl (.seq (sq1 bodyRl) (.seq (sq1 (sq2 bodyRl)) (sq1 (sq2 (sq2 bodyRl))))) ⟨numbered 0 [.sl (l.map eBeat), vI q] [], []⟩).val =
  Option.bind (unenc encSsn [AV.sl (List.map eBeat l)]) fun (z : List Beat) => bif decide (List.length z ≤ (3000 : Nat)) then Option.bind (unenc stRl11 (St.mk [(22, (vI (0 :
  Int))), (21, (vI (↑(List.length (List.map eStr (F.sess z))) : Int))), (20, AV.sl (List.map eStr (F.sess z))), (6, .own 6), (5, .own 5), (1, (vI q)), (0, AV.sl (List.map
  eBeat l))] [(6, Blk.mk false 3 1 []), (5, Blk.mk false 3 1 [])])) fun (z : List Beat × Int × List ByteArray × List Int × List Int × Nat) => bif decide (List.length z.fst ≤
  (3000 : Nat)) && decide (List.length z.snd.snd.fst ≤ (3000 : Nat)) && decide (z.snd.snd.snd.snd.snd ≤ List.length z.snd.snd.fst) && decide (List.length z.snd.snd.snd.fst ≤
  z.snd.snd.snd.snd.snd * (3000 : Nat)) && decide (List.length z.snd.snd.snd.snd.fst ≤ z.snd.snd.snd.snd.snd * (3000 : Nat)) && true then some (Ex.normal, St.mk [(6, .own
  6), (5, .own 5)] [(6, Blk.mk false 3 1 (List.map eI (List.foldl (F.spx2 z.snd.fst z.fst) (z.snd.snd.snd.fst, z.snd.snd.snd.snd.fst) (List.drop z.snd.snd.snd.snd.snd
  z.snd.snd.fst)).snd)), (5, Blk.mk false 3 1 (List.map eI (List.foldl (F.spx2 z.snd.fst z.fst) (z.snd.snd.snd.fst, z.snd.snd.snd.snd.fst) (List.drop z.snd.snd.snd.snd.snd
  z.snd.snd.fst)).fst))]) else none else none := by kernel_rfl

theorem evRlB (ts : List Int) (bs : List Int) (es : List Int) : (exec enRl restRl ⟨[(7, .own 51000), (6, .own 6), (5, .own 5)], [(51000, ⟨false, 3, 1, ts.map eI⟩), (6, ⟨false, 3, 1, es.map eI⟩), (5, ⟨false, 3, 1, bs.map eI⟩)]⟩).val =
  Option.bind (unenc encSo ([.own 900], [(900, Blk.mk false 3 1 (List.map eI ts))])) fun (z : List Int) => bif decide (List.length z ≤ (100000 : Nat)) then Option.bind
  (unenc encSo ([.own 900], [(900, Blk.mk false 3 1 (List.map eI bs))])) fun (z_1 : List Int) => bif decide (List.length z_1 ≤ (100000 : Nat)) then Option.bind (unenc encSo
  ([.own 900], [(900, Blk.mk false 3 1 (List.map eI es))])) fun (z_2 : List Int) => bif decide (List.length z_2 ≤ (100000 : Nat)) then Option.bind (unenc encCpt ([.own 900],
  [(900, Blk.mk false 3 1 (List.map eI (F.srtI z)))])) fun (z : List Int) => bif decide (List.length z ≤ (100000 : Nat)) then Option.bind (unenc stRl31 (St.mk [(60, (vI (0 :
  Int))), (59, (vI (↑(List.length (F.cmpI z)) : Int))), (58, AV.win (List.getD [(51000 : Nat)] (0 : Nat) (0 : Nat)) (0 : Nat) (List.length (F.cmpI z))), (15, (vI (0 :
  Int))), (14, (vI (0 : Int))), (13, (vI (0 : Int))), (12, .own 12), (6, .own 6), (5, .own 5)] [(List.getD [(51000 : Nat)] (0 : Nat) (0 : Nat), Blk.mk false 3 1 (List.map eI
  (F.cmpI z ++ List.replicate (List.length z - List.length (F.cmpI z)) (0 : Int)))), (12, Blk.mk false 30 2 []), (List.getD [(6 : Nat)] (0 : Nat) (0 : Nat), Blk.mk false 3 1
  (List.map eI (F.srtI z_2))), (List.getD [(5 : Nat)] (0 : Nat) (0 : Nat), Blk.mk false 3 1 (List.map eI (F.srtI z_1)))])) fun (z : List Int × Nat × List Int × List Int ×
  Nat × Nat × Int × List Level × Nat) => bif decide (List.length z.fst ≤ (100000 : Nat) ∧ List.length z.snd.snd.fst ≤ (100000 : Nat) ∧ List.length z.snd.snd.snd.fst ≤
  (100000 : Nat) ∧ z.snd.fst ≤ List.length z.fst ∧ z.snd.snd.snd.snd.snd.snd.snd.snd ≤ z.snd.fst ∧ z.snd.snd.snd.snd.fst ≤ List.length z.snd.snd.fst ∧
  z.snd.snd.snd.snd.snd.fst ≤ List.length z.snd.snd.snd.fst ∧ -(↑z.snd.snd.snd.snd.snd.fst : Int) ≤ z.snd.snd.snd.snd.snd.snd.fst ∧ z.snd.snd.snd.snd.snd.snd.fst ≤
  (↑z.snd.snd.snd.snd.fst : Int) ∧ List.length z.snd.snd.snd.snd.snd.snd.snd.fst ≤ z.snd.snd.snd.snd.snd.snd.snd.snd) && true then some (Ex.ret, St.mk [(108, .own 12), (12,
  .own 12), (4, .own 12)] [(12, Blk.mk false 30 2 (List.map eLevel (F.refL (List.drop z.snd.snd.snd.snd.snd.snd.snd.snd (List.take z.snd.fst z.fst))
  z.snd.snd.snd.snd.snd.snd.fst (List.drop z.snd.snd.snd.snd.fst z.snd.snd.fst) (List.drop z.snd.snd.snd.snd.snd.fst z.snd.snd.snd.fst)
  z.snd.snd.snd.snd.snd.snd.snd.fst)))]) else none else none else none else none else none := by kernel_rfl

theorem bodyRl_eq : Try.f30.body = some (.seq (sq1 bodyRl) (.seq (sq1 (sq2 bodyRl)) (.seq (sq1 (sq2 (sq2 bodyRl))) (.seq midRl restRl)))) := by kernel_rfl

noncomputable def midOps : Array Oper := match midRl with
  | .region _ ops _ => ops
  | _ => #[]

theorem midRl_eq : midRl = .region 11 midOps false := by kernel_rfl

theorem mid_size : midOps.size = 5 := by kernel_rfl
theorem mid0 : (midOps[0]?).map (fun o => (o.dst, o.op, o.guard)) = some (some 47, .move (.tmp 5), none) := by kernel_rfl
theorem mid1 : (midOps[1]?).map (fun o => (o.dst, o.op, o.guard)) = some (some 48, .move (.tmp 6), none) := by kernel_rfl
theorem mid2 : (midOps[2]?).map (fun o => (o.dst, o.op, o.guard)) = some (some 49, .buildSlice 95 2 #[(0, .tmp 47), (1, .tmp 48)], none) := by kernel_rfl
theorem mid3 : (midOps[3]?).map (fun o => (o.dst, o.op, o.guard)) = some (some 50, .call { callee := .value (.func 50), args := #[.tmp 49], argTypes := #[95] }, none) := by kernel_rfl
theorem mid4 : (midOps[4]?).map (fun o => (o.dst, o.op, o.guard)) = some (some 7, .assign (.tmp 50), none) := by kernel_rfl

theorem mid_op {i : Nat} {dst : Option Tmp} {op : Op} (h : (midOps[i]?).map (fun o => (o.dst, o.op, o.guard)) = some (dst, op, none)) {a : Act} {w : World} {K : Act → World → Prop} {Q : Exit → Act → World → Prop}
    (hK : ∀ o : Oper, o.dst = dst → o.op = op → o.wp Try.prog a w K Q) : wpOp Try.prog midOps Q i K a w := by
  obtain ⟨o, ho, he⟩ := Option.map_eq_some_iff.1 h
  simp only [Prod.mk.injEq] at he
  unfold wpOp
  simp only [ho]
  rw [if_pos (by simp [Region.wanted, he.2.2])]
  exact .inl (hK o he.1 he.2.1)

theorem op_value {o : Oper} {a : Act} {w w' : World} {v : Value} {K : Act → World → Prop} {Q : Exit → Act → World → Prop} (h : (execOp a.eval o).run Try.prog w = .ok (.value v) w') (hK : K (a.put o.dst v) w') : o.wp Try.prog a w K Q := by
  unfold Oper.wp
  rw [h, Oper.upon_value]
  exact hK

theorem put_getD {a : Act} {d n : Nat} {v : Value} (hd : d < a.tmps.size) : (a.put (some d) v).tmps.getD n undef = if n = d then v else a.tmps.getD n undef := by
  unfold Act.put
  simp only [Array.getD_eq_getD_getElem?, Array.getElem?_setIfInBounds]
  by_cases e : n = d
  · subst e; simp [hd]
  · rw [if_neg (Ne.symm e), if_neg e]

theorem ev_put {a : Act} {d n : Nat} {v : Value} (hd : d < a.tmps.size) : (a.put (some d) v).eval (.tmp n) = if n = d then v else a.eval (.tmp n) := put_getD hd

theorem blk_ints {w : World} {S S' : Nat → Prop} {t : TypeId} {xs : List Int} {x : BI} (h : BlkOK w S noKeys ⟨false, t, 1, xs.map eI⟩ x) : BlkOK w S' noKeys ⟨false, t, 1, xs.map eI⟩ x := by
  obtain ⟨cs, ty, c1, c2, c3, c4, c5, c6, c7, c8⟩ := h
  refine ⟨cs, ty, c1, c2, c3, c4, c5, c6, c7, fun i row hi => ⟨(c8 i row hi).1, fun q y hy => ?_⟩⟩
  obtain ⟨u, hu, hru⟩ := (c8 i row hi).2 q y hy
  refine ⟨u, hu, ?_⟩
  simp only [List.getElem?_map, Option.map_eq_some_iff] at hi
  obtain ⟨z, hz, rfl⟩ := hi
  have hq : y = vI z := by
    have h0 : q = 0 := by have := (List.getElem?_eq_some_iff.1 hy).1; simp [eI] at this; omega
    subst h0
    simpa [eI] using hy.symm
  subst hq
  have hru : R0 w S (vI z) u := hru
  show R0 w S' (vI z) u
  cases hru with
  | v h => exact .v h

theorem mid_wp {B : Nat → Prop} {N : Nat} {w0 : World} {S0 : Nat → Prop} {β0 : Nat → Option BI} {a : Act} {w : World} {xs ys : List Int} (hl : xs.length + ys.length ≤ 100000) (hN : 51 ≤ N)
    (rel : RelE enRl B N w0 S0 β0 ⟨[(6, .own 6), (5, .own 5)], [(6, ⟨false, 3, 1, ys.map eI⟩), (5, ⟨false, 3, 1, xs.map eI⟩)]⟩ a w) {Q : Exit → Act → World → Prop}
    (hQ : ∀ a' w', RelE enRl B N w0 S0 β0 ⟨[(7, .own 51000), (6, .own 6), (5, .own 5)], [(51000, ⟨false, 3, 1, (xs ++ ys).map eI⟩), (6, ⟨false, 3, 1, ys.map eI⟩), (5, ⟨false, 3, 1, xs.map eI⟩)]⟩ a' w' → Q .normal a' w') :
    midRl.wp Try.prog Q a w := by
  obtain ⟨S, β, rel⟩ := rel
  have hsz := rel.size
  have h5 : RV w S β (.own 5) (a.eval (.tmp 5)) := rel.tok 5
  have h6 : RV w S β (.own 6) (a.eval (.tmp 6)) := rel.tok 6
  have r5 : R0 w (plusOwn S β) (.sl (xs.map eI)) (a.eval (.tmp 5)) := own_sl (bl := ⟨false, 3, 1, xs.map eI⟩) rel.inv rfl rfl h5
  have r6 : R0 w (plusOwn S β) (.sl (ys.map eI)) (a.eval (.tmp 6)) := own_sl (bl := ⟨false, 3, 1, ys.map eI⟩) rel.inv rfl rfl h6
  generalize hv5 : a.eval (.tmp 5) = v5 at h5 r5
  generalize hv6 : a.eval (.tmp 6) = v6 at h6 r6
  have sl1 : ∀ {v : Value} {k : Nat}, RV w S β (.own k) v → v.cells = #[v] := fun {v k} h => by
    obtain ⟨x, _, g1, g2⟩ := (show RP w S β (.own k) v from h)
    cases hr : x.real
    · obtain ⟨A, rfl⟩ := g2 hr; rfl
    · rw [g1 hr]; rfl
  have s5 := sl1 h5
  have s6 := sl1 h6
  rw [midRl_eq]
  refine wp_region ?_
  rw [mid_size, show List.range 5 = [0, 1, 2, 3, 4] from rfl, wpOps_cons]
  refine mid_op mid0 fun o hd ho => op_value (w' := w) (v := v5) (by simp [execOp, ho, hv5]) ?_
  rw [hd, wpOps_cons]
  have e1 : (a.put (some 47) v5).tmps.size = N := by rw [put_size]; exact hsz
  refine mid_op mid1 fun o hd ho => op_value (w' := w) (v := v6) (by simp [execOp, ho, ev_put (a := a) (d := 47) (n := 6) (v := v5) (by omega), hv6]) ?_
  rw [hd, wpOps_cons]
  have e2 : ((a.put (some 47) v5).put (some 48) v6).tmps.size = N := by rw [put_size]; exact e1
  have g47 : ((a.put (some 47) v5).put (some 48) v6).eval (.tmp 47) = v5 := by rw [ev_put (by omega), if_neg (by decide), ev_put (by omega), if_pos rfl]
  have g48 : ((a.put (some 47) v5).put (some 48) v6).eval (.tmp 48) = v6 := by rw [ev_put (by omega), if_pos rfl]
  have g5 : ((a.put (some 47) v5).put (some 48) v6).eval (.tmp 5) = v5 := by rw [ev_put (by omega), if_neg (by decide), ev_put (by omega), if_neg (by decide)]; exact hv5
  have g6 : ((a.put (some 47) v5).put (some 48) v6).eval (.tmp 6) = v6 := by rw [ev_put (by omega), if_neg (by decide), ev_put (by omega), if_neg (by decide)]; exact hv6
  have gd0 : ((a.put (some 47) v5).put (some 48) v6).defers = [] := by rw [put_defers, put_defers]; exact rel.defers
  generalize (a.put (some 47) v5).put (some 48) v6 = a2 at *
  obtain ⟨i0, hi, hz0, hz1, hz2⟩ := info_parts (show (Try.prog.info? 75).map (fun i => (i.zero, i.size, i.bytes)) = some (some (.slice none 0 0), 1, 24) by kernel_rfl)
  obtain ⟨cells, f1, f2, f3, f4⟩ := fill_dense (size := 1) (n := 2) [(0, v5), (1, v6)] 0 ((Array.range (2 * i0.size)).map ((Value.slice none 0 0).cells[· % (Value.slice none 0 0).cells.size]!)) rfl (by simp [hz1])
    (fun j p hp => by match j, hp with | 0, hp => cases hp; rfl | 1, hp => cases hp; rfl) (fun p hp => by
      simp only [List.mem_cons, List.not_mem_nil, or_false] at hp
      rcases hp with rfl | rfl
      · rw [s5]; rfl
      · rw [s6]; rfl)
  have c0 : cells[0]? = some v5 := by have := f4 0 (0, v5) rfl 0 (by decide); rw [s5] at this; simpa using this
  have c1 : cells[1]? = some v6 := by have := f4 1 (1, v6) rfl 0 (by decide); rw [s6] at this; simpa using this
  refine mid_op mid2 fun o hd ho => wp_buildSlice 95 75 2 #[(0, .tmp 47), (1, .tmp 48)] ho cells i0 (.slice none 0 0) (by kernel_rfl) hi hz0 (by rw [hz1]; decide) (by rw [hz1]; decide) ?_ ?_
  · rw [hz1] at f1 ⊢
    simp only [List.map_toArray, List.map_cons, List.map_nil, g47, g48]
    exact f1
  rw [hd, wpOps_cons]
  have hsz1 : (w.alloc (.cells cells 75)).heap.size = w.heap.size + 1 := by simp
  have hnb : (w.alloc (.cells cells 75)).heap[w.heap.size]? = some (.cells cells 75) := (MapKept.heap_alloc w _).1
  have hbl1 : Below w.heap.size w (w.alloc (.cells cells 75)) := (Below.refl _ _).alloc (Nat.le_refl _) _
  have hown : ∀ b, plusOwn S β b → b < w.heap.size := fun b hb => by
    rcases hb with hb | ⟨k, x, hk, hr, rfl⟩
    · exact rel.inv.lt b hb
    · exact (rel.inv.new k x hk hr).2.1
  have harg : R0 (w.alloc (.cells cells 75)) (fun b => plusOwn S β b ∨ b = w.heap.size) (.sl ([xs, ys].map eL_eI)) (.slice (some ⟨w.heap.size, 0, none⟩) 2 2) := by
    have m5 := r5.mono (w' := w.alloc (.cells cells 75)) (S' := fun b => plusOwn S β b ∨ b = w.heap.size) (fun b hb => hbl1.block b (hown b hb)) fun b hb => .inl hb
    have m6 := r6.mono (w' := w.alloc (.cells cells 75)) (S' := fun b => plusOwn S β b ∨ b = w.heap.size) (fun b hb => hbl1.block b (hown b hb)) fun b hb => .inl hb
    refine R0.sl (rows := [xs, ys].map eL_eI) (cap := 2) (size := 1) (b := w.heap.size) (off := 0) (vals := fun i _ => if i = 0 then v5 else v6) (by simp) (by decide) (fun _ => ⟨rfl, .inr rfl⟩) (fun i row hr => ?_) (fun i j row x hr hx => ?_) (fun i j row x hr hx => ?_)
    · match i, hr with
      | 0, hr => cases hr; rfl
      | 1, hr => cases hr; rfl
    · match i, hr with
      | 0, hr =>
        cases hr
        match j, hx with
        | 0, _ => unfold World.cell?; simp only [hnb]; exact c0
      | 1, hr =>
        cases hr
        match j, hx with
        | 0, _ => unfold World.cell?; simp only [hnb]; exact c1
    · match i, hr with
      | 0, hr =>
        cases hr
        match j, hx with
        | 0, hx => cases hx; exact m5
      | 1, hr =>
        cases hr
        match j, hx with
        | 0, hx => cases hx; exact m6
  have hsp := orc_at okCi encCi_inj [xs, ys] (decide_eq_true ⟨by simp, by simp [F.totI]; omega⟩)
  have hcall := hsp (w.alloc (.cells cells 75)) (fun b => plusOwn S β b ∨ b = w.heap.size) [.slice (some ⟨w.heap.size, 0, none⟩) 2 2] (fun b hb => by rw [hsz1]; rcases hb with hb | rfl; have := hown b hb; omega; omega) (fun g r h => by cases h) ⟨harg, trivial⟩
  have e3 : (a2.put (some 49) (.slice (some ⟨w.heap.size, 0, none⟩) 2 2)).tmps.size = N := by rw [put_size]; exact e2
  have g49 : (a2.put (some 49) (.slice (some ⟨w.heap.size, 0, none⟩) 2 2)).eval (.tmp 49) = .slice (some ⟨w.heap.size, 0, none⟩) 2 2 := by rw [ev_put (by omega), if_pos rfl]
  have k5 : (a2.put (some 49) (.slice (some ⟨w.heap.size, 0, none⟩) 2 2)).eval (.tmp 5) = v5 := by rw [ev_put (by omega), if_neg (by decide)]; exact g5
  have k6 : (a2.put (some 49) (.slice (some ⟨w.heap.size, 0, none⟩) 2 2)).eval (.tmp 6) = v6 := by rw [ev_put (by omega), if_neg (by decide)]; exact g6
  have kd : (a2.put (some 49) (.slice (some ⟨w.heap.size, 0, none⟩) 2 2)).defers = [] := by rw [put_defers]; exact gd0
  generalize a2.put (some 49) (.slice (some ⟨w.heap.size, 0, none⟩) 2 2) = a3 at *
  refine mid_op mid3 fun o hd ho => ?_
  unfold Oper.wp
  rw [run_enter (f := 50) (caps := []) okCi.here ho rfl rfl, Oper.upon_enter]
  simp only [List.map_cons, List.map_nil, List.append_nil, g49]
  refine hcall.mono ?_
  rintro e w2 ⟨v, S', β', rfl, hb2, q1, q2, q3, q4, q5, q6, q7, q8⟩
  have hbw : Below w.heap.size w w2 := hbl1.trans (hb2.mono (by rw [hsz1]; omega))
  obtain ⟨β2, inv2, g, hk⟩ := inv_call (d := 50) rel.inv (S' := S) (β' := β') (H := [(0, ⟨false, 3, 1, [xs, ys].flatten.map eI⟩)]) hbw (fun _ h => h) (fun _ h => .inl h) (fun b hb => Nat.lt_of_lt_of_le (rel.inv.lt b hb) hbw.size) q4
    (fun k x hk hr => by
      obtain ⟨n1, n2, n3⟩ := q5 k x hk hr
      rw [hsz1] at n1
      exact ⟨by omega, n2, fun hs => by have := rel.inv.lt _ hs; omega⟩)
    (fun k x hk => by
      obtain ⟨bl, b1, b2, b3, b4⟩ := q6 k x hk
      refine ⟨bl, b1, b2, fun hr => ?_, b4⟩
      have hbl : bl = ⟨false, 3, 1, [xs, ys].flatten.map eI⟩ := by
        exact congrArg Prod.snd (List.mem_singleton.1 (mget_mem b1))
      subst hbl
      exact blk_ints (b3 hr)) q7 rfl rfl
  show wpOps _ _ _ [4] (a3.put o.dst v) w2
  rw [hd, wpOps_cons]
  have e4 : (a3.put (some 50) v).tmps.size = N := by rw [put_size]; exact e3
  have g50 : (a3.put (some 50) v).eval (.tmp 50) = v := by rw [ev_put (by omega), if_pos rfl]
  refine mid_op mid4 fun o hd ho => op_value (w' := w2) (v := v) (by simp [execOp, ho, g50]) ?_
  rw [hd]
  refine hQ _ _ ⟨S, β2, ?_, fun n => ?_, ?_, rel.below.trans g.below, rel.sub, rel.news, fun k x hi hm hk => rel.fix k x hi hm (g.old k x hi hk), by rw [put_size]; exact e4, by rw [put_defers, put_defers]; exact kd⟩
  · have ef : [xs, ys].flatten = xs ++ ys := by simp
    rw [ef] at inv2
    exact inv2
  · obtain ⟨y5, b5, a5⟩ := (show RP w S β (.own 5) v5 from h5)
    obtain ⟨y6, b6, a6⟩ := (show RP w S β (.own 6) v6 from h6)
    obtain ⟨y0, b0, a0⟩ := (show RP w2 S' β' (.own 0) v from q8)
    rw [put_getD (by omega)]
    have z5 : (a3.put (some 50) v).tmps.getD 5 undef = v5 := by rw [put_getD (by omega), if_neg (by decide)]; exact k5
    have z6 : (a3.put (some 50) v).tmps.getD 6 undef = v6 := by rw [put_getD (by omega), if_neg (by decide)]; exact k6
    by_cases n7 : n = 7
    · subst n7
      rw [if_pos rfl]
      exact ⟨y0, hk 0 y0 b0, a0⟩
    · rw [if_neg n7]
      by_cases n6 : n = 6
      · subst n6
        rw [z6]
        exact ⟨y6, g.keys 6 y6 b6, a6⟩
      · by_cases n5 : n = 5
        · subst n5
          rw [z5]
          exact ⟨y5, g.keys 5 y5 b5, a5⟩
        · have hg : getT [(7, .own 51000), (6, .own 6), (5, .own 5)] n = .unk := by
            unfold getT
            simp only [mget]
            rw [beq_false.2 n7, beq_false.2 n6, beq_false.2 n5]
          show RV w2 S β2 (getT [(7, .own 51000), (6, .own 6), (5, .own 5)] n) _
          rw [hg]
          trivial
  · intro n j b want x hn
    exfalso
    have hn : getT [(7, .own 51000), (6, .own 6), (5, .own 5)] n = .gd j b want x := hn
    unfold getT at hn
    simp only [mget] at hn
    by_cases n7 : n = 7
    · rw [beq_true.2 n7] at hn; cases hn
    · rw [beq_false.2 n7] at hn
      by_cases n6 : n = 6
      · rw [beq_true.2 n6] at hn; cases hn
      · rw [beq_false.2 n6] at hn
        by_cases n5 : n = 5
        · rw [beq_true.2 n5] at hn; cases hn
        · rw [beq_false.2 n5] at hn; cases hn

/-- Four pieces one after another, the first three of them by the machine. -/
theorem run3 {P : Program} {E : Env} {B : Nat → Prop} {N : Nat} {w0 : World} {S0 : Nat → Prop} {β0 : Nat → Option BI} (ok : EnvOK P E) (hm : P.follows .mixedOrders = true) {L : List Code} (hlp : ∀ x ∈ L, ∀ s e s', (E.lp (lid x) s).val = some (e, s') → LoopOK E x s e s') {c0 c1 c2 R : Code} {s s3 : St} {a : Act} {w : World} {Q : Exit → Act → World → Prop}
    (hL : ∀ x ∈ loopsOf (.seq c0 (.seq c1 c2)), x ∈ L) (hd : dstsOK N (.seq c0 (.seq c1 c2)) = true) (h : (exec E (.seq c0 (.seq c1 c2)) s).val = some (.normal, s3)) (rel : RelE E B N w0 S0 β0 s a w) (hR : ∀ a' w', RelE E B N w0 S0 β0 s3 a' w' → R.wp P Q a' w') :
    (Code.seq c0 (.seq c1 (.seq c2 R))).wp P Q a w := by
  simp only [dstsOK, Bool.and_eq_true] at hd
  rw [exec, T.bind_some] at h
  obtain ⟨⟨e0, s0⟩, h0, h⟩ := h
  refine wp_seq (exec_sound ok hm hlp c0 (fun z hz => hL z (by simp [loopsOf, hz])) hd.1 s e0 s0 a w _ rel h0 fun a1 w1 r1 => ?_)
  cases e0 with
  | exit i => rw [T.ret_some] at h; cases h
  | ret => rw [T.ret_some] at h; cases h
  | normal =>
    simp only [] at h
    rw [exec, T.bind_some] at h
    obtain ⟨⟨e1, s1⟩, h1, h⟩ := h
    refine wp_seq (exec_sound ok hm hlp c1 (fun z hz => hL z (by simp [loopsOf, hz])) hd.2.1 s0 e1 s1 a1 w1 _ r1 h1 fun a2 w2 r2 => ?_)
    cases e1 with
    | exit i => rw [T.ret_some] at h; cases h
    | ret => rw [T.ret_some] at h; cases h
    | normal => exact wp_seq (exec_sound ok hm hlp c2 (fun z hz => hL z (by simp [loopsOf, hz])) hd.2.2 s1 .normal s3 a2 w2 _ r2 h fun a3 w3 r3 => hR a3 w3 r3)

def encRlv1 (l : List Beat) (q : Int) : List AV := [.sl (l.map eBeat), vI q]

def encRlv (a : (List Beat) × Int) : List AV := encRlv1 a.1 a.2

theorem encRlv_inj (a a' : (List Beat) × Int) (h : encRlv a = encRlv a') : a = a' := by
  simp only [encRlv, encRlv1] at h
  try simp [strs_inj, ints_inj, bools_inj, eL_eIs_inj, eBeats_inj, eBeat_iff, eL_eBeats_inj, eSpans_inj, eSpan_iff, eHoles_inj, eHole_iff, eLevels_inj, eLevel_iff, eFigss_inj, eFigs_iff, eRatios_inj, eRatio_iff, eReps_inj, eRep_iff, eStays_inj, eStay_iff] at h
  grind

theorem unRlv (l : List Beat) (q : Int) : unenc encRlv ([AV.sl (List.map eBeat l), (vI q)]) = some (l, q) := unenc_of encRlv_inj (l, q) rfl

def resRlv1 (l : List Beat) (q : Int) : AV × Heap := (.sl ((F.rlevels q l).map eLevel), [])

def preRlv1 (l : List Beat) (q : Int) : Bool := F.checkB l == 0 && decide (l.length ≤ 3000)

noncomputable def oRlv : Orc := orc 30 false encRlv (fun a => preRlv1 a.1 a.2) fun a => resRlv1 a.1 a.2

theorem loopsRl : ∀ x ∈ Func.loops Try.f30, ∀ s e s', (enRl.lp (lid x) s).val = some (e, s') → LoopOK enRl x s e s' := by
  rw [show Func.loops Try.f30 = [loopN Try.f30 0, loopN Try.f30 1, loopN Try.f30 2, loopN Try.f30 3, loopN Try.f30 4] by kernel_rfl]
  simp only [List.forall_mem_cons]
  refine ⟨lpo_ok ?_, lpo_ok ?_, lpo_ok ?_, lpo_ok ?_, lpo_ok ?_, by simp⟩
  · rintro ⟨l, q, X, bs, es, k⟩ hp
    exact lpRl1_ok l q X bs es k hp
  · rintro ⟨l, q, X, bs, es, k, ss, j⟩ hp
    exact lpRl2_ok l q X bs es k ss j hp
  · rintro ⟨xs, m, bs, es, b, e, n, out, k⟩ hp
    exact lpRl3_ok xs m bs es b e n out k hp
  · rintro ⟨xs, m, bs, es, b, e, n, out, k, t, c⟩ hp
    exact lpRl4_ok xs m bs es b e n out k t c hp
  · rintro ⟨xs, m, bs, es, b, e, n, out, k, t, c⟩ hp
    exact lpRl5_ok xs m bs es b e n out k t c hp

theorem preA {l : List Beat} {q : Int} (hl : l.length ≤ 3000) : (exec enRl (.seq (sq1 bodyRl) (.seq (sq1 (sq2 bodyRl)) (sq1 (sq2 (sq2 bodyRl))))) ⟨numbered 0 [.sl (l.map eBeat), vI q] [], []⟩).val =
    some (.normal, ⟨[(6, .own 6), (5, .own 5)], [(6, ⟨false, 3, 1, ((F.spansR q l).map (·.to)).map eI⟩), (5, ⟨false, 3, 1, ((F.spansR q l).map (·.fr)).map eI⟩)]⟩) := by
  have hsl : (F.sess l).length ≤ l.length := by have := F.ds_len (l.map (·.session)); rw [List.length_map] at this; exact this
  have d1 : decide (l.length ≤ 3000) = true := decide_eq_true hl
  have d2 : decide ((F.sess l).length ≤ 3000) = true := decide_eq_true (by omega)
  rw [evRlA]
  simp only [unSsn, preSsn1, unstRl10, Option.bind_some, List.length_map, unStrs, unInts, cond_true, cond_false, Bool.and_true, Bool.true_and, List.drop_zero, Nat.zero_le, decide_true, d1, d2, List.length_nil]
  have e := F.spx2_eq q l (F.sess l) ([], [])
  simp only [List.nil_append] at e
  rw [e]
  rfl

theorem preB {R : List Span} (hR : R.length ≤ 3000) : (exec enRl restRl ⟨[(7, .own 51000), (6, .own 6), (5, .own 5)], [(51000, ⟨false, 3, 1, (R.map (·.fr) ++ R.map (·.to)).map eI⟩), (6, ⟨false, 3, 1, (R.map (·.to)).map eI⟩), (5, ⟨false, 3, 1, (R.map (·.fr)).map eI⟩)]⟩).val =
    some (.ret, ⟨[(108, .own 12), (12, .own 12), (4, .own 12)], [(12, ⟨false, 30, 2, (F.refL (F.cmpI (F.srtI (R.map (·.fr) ++ R.map (·.to)))) 0 (F.srtI (R.map (·.fr))) (F.srtI (R.map (·.to))) []).map eLevel⟩)]⟩) := by
  rw [evRlB]
  have l1 : (R.map (·.fr) ++ R.map (·.to)).length = R.length + R.length := by simp
  have l2 : (F.srtI (R.map (·.fr) ++ R.map (·.to))).length = R.length + R.length := by rw [F.srtI_len]; exact l1
  have l3 := F.cmpI_len (F.srtI (R.map (·.fr) ++ R.map (·.to)))
  have d1 : decide (R.length + R.length ≤ 100000) = true := decide_eq_true (by omega)
  have d2 : decide (R.length ≤ 100000) = true := decide_eq_true (by omega)
  simp only [unSo, unCpt, preSo1, preCpt1, show ([51000] : List Nat).getD 0 0 = 51000 from rfl, show ([6] : List Nat).getD 0 0 = 6 from rfl, show ([5] : List Nat).getD 0 0 = 5 from rfl, unstRl30, Option.bind_some, cond_true, List.drop_zero, l1, l2, List.length_map, d1, d2, Bool.and_true]
  have l4 : (F.srtI (R.map (·.fr))).length = R.length := by rw [F.srtI_len]; simp
  have l5 : (F.srtI (R.map (·.to))).length = R.length := by rw [F.srtI_len]; simp
  rw [decide_eq_true (by refine ⟨?_, ?_, ?_, ?_, Nat.zero_le _, Nat.zero_le _, Nat.zero_le _, ?_, ?_, Nat.le_refl _⟩ <;> first | (rw [List.length_append, List.length_replicate]; omega) | omega | simp), cond_true]
  rw [List.take_left' rfl]

theorem okRlv : OrcOK Try.prog noG oRlv := by
  refine orc_ok ⟨Try.f30, by kernel_rfl, by kernel_rfl, by kernel_rfl⟩ (fun a hp hok => ?_) (fun h => by cases h)
  obtain ⟨l, q⟩ := a
  simp only [preRlv1, Bool.and_eq_true, decide_eq_true_eq, beq_iff_eq] at hp
  obtain ⟨hc, hl⟩ := hp
  have hR := F.spansR_len (q := q) (F.checkB_sorted hc).1
  refine runC_sound (E := enRl) enRl_ok (fn := Try.f30) (by kernel_rfl) bodyRl_eq (by kernel_rfl) (keep := false) (args := encRlv (l, q)) (s2 := ⟨[(108, .own 12), (12, .own 12), (4, .own 12)], [(12, ⟨false, 30, 2, (F.rlevels q l).map eLevel⟩)]⟩) (xs := [.own 12]) (fun w S hS N a w' hdN rel Q hQ => ?_) rfl rfl
  have hd := hdN
  simp only [dstsOK, Bool.and_eq_true] at hd
  have hN : 51 ≤ N := by
    have h := hd.2.2.2.1
    rw [midRl_eq] at h
    obtain ⟨o, ho, he⟩ := Option.map_eq_some_iff.1 mid3
    have h := List.all_eq_true.1 (show (midOps.toList.all fun o => match o.dst with | some d => Nat.blt d N | none => true) = true from h) o (List.mem_of_getElem? (by simpa using ho))
    simp only [Prod.mk.injEq] at he
    rw [he.1] at h
    have h : 50 < N := by simpa using h
    exact h
  refine run3 enRl_ok mixed loopsRl (fun x hx => ?_) (by simp only [dstsOK, Bool.and_eq_true]; exact ⟨hd.1, hd.2.1, hd.2.2.1⟩) (preA hl) rel fun a1 w1 rel1 => wp_seq (mid_wp (by simp; omega) hN rel1 fun a2 w2 rel2 => ?_)
  · unfold Func.loops
    rw [bodyRl_eq]
    simp only [loopsOf, List.mem_append] at hx ⊢
    rcases hx with hx | hx | hx
    · exact .inl hx
    · exact .inr (.inl hx)
    · exact .inr (.inr (.inl hx))
  · exact exec_sound enRl_ok mixed loopsRl restRl (fun x hx => by
      unfold Func.loops
      rw [bodyRl_eq]
      simp only [loopsOf, List.mem_append]
      exact .inr (.inr (.inr (.inr hx)))) hd.2.2.2.2 _ .ret _ a2 w2 Q rel2 (preB (R := F.spansR q l) (by omega)) hQ

end M
end Go.Proofs.Ytnkaadiofjoacaa
