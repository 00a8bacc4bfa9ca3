/- The statement and its card are proved. No condition. -/
import Derived.Test.YtpjhflboedicpaaGreatDoorMh
import Derived.ProofKit
import Derived.Deep.Slices
import Derived.Test.YtpjhflboedicpaaGreatDoorCards
import Derived.Test.YtpjhflboedicpaaGreatDoorTie
import Derived.Lay
import Derived.SevenTiedAt
set_option linter.unusedVariables false
set_option linter.unusedSimpArgs false
namespace Go.Proofs.YtpjhflboedicpaaGreatDoor
open Go Go.W
set_option maxRecDepth 100000
def heapA (W : World) : Assn := ⟨fun π h => (∀ (b : Nat) (x : Obj), W.heap[b]? = some x → π b = some x) ∧ h = Frag.emp, fun hl h => ⟨fun b x hb => hl b x (h.1 b x hb), h.2⟩⟩
def fixOf (W : World) : Fix := ⟨W.os, W.output⟩
theorem heapA_start (W : World) : SH (fixOf W) [heapA W] W :=
  ⟨fun b => W.heap[b]?, Frag.emp, Frag.disj_emp _, fun b x h => h, fun b x h => by simp [Frag.emp] at h, rfl, rfl, Frag.emp, Frag.emp, Frag.emp_disj _, (Frag.emp_add _).symm, ⟨fun b x h => h, rfl⟩, rfl⟩
theorem heapA_keeps {o : Fix} {Γ : List Assn} {W w : World} (h : SH o (heapA W :: Γ) w) : ∀ (b : Nat) (x : Obj), W.heap[b]? = some x → w.heap[b]? = some x := by
  obtain ⟨π, h, h1, h2, h3, h4, h5, a, r, hd, he, ⟨g1, g2⟩, hs⟩ := h
  exact fun b x hb => h2 b x (g1 b x hb)
theorem heapA_below {W w : World} (h : SH (fixOf W) [heapA W] w) : RowKit.Below W.heap.size W { w with tape := W.tape } := by
  have hk := heapA_keeps h
  obtain ⟨π, h, h1, h2, h3, h4, h5, _⟩ := h
  refine ⟨h4, rfl, h5, ?_, fun k hlt => ?_⟩
  · rcases Nat.eq_zero_or_pos W.heap.size with h0 | h0
    · omega
    · have hx : W.heap[W.heap.size - 1]? = some W.heap[W.heap.size - 1] := Array.getElem?_eq_getElem (by omega)
      obtain ⟨hl, _⟩ := Array.getElem?_eq_some_iff.1 (hk _ _ hx)
      show W.heap.size ≤ w.heap.size
      omega
  · have hx : W.heap[k]? = some W.heap[k] := Array.getElem?_eq_getElem hlt
    show w.heap[k]? = W.heap[k]?
    rw [hx]; exact hk _ _ hx
theorem rdS.old {s : Sl} {k : Kd} {xs : List (KT k)} {W : World} {Γ : List Assn} (h : rdS s k xs W) : RdS s k xs (heapA W :: Γ) := by
  refine ⟨fun hs => ?_⟩
  obtain ⟨h1, h2, h3⟩ := h
  refine ⟨h1, h2, h3.imp id ?_⟩
  rintro ⟨b, pre, post, e, fr, g1, g2⟩
  exact ⟨b, pre, post, e, fr, g1, heapA_keeps hs _ _ g2⟩
theorem cells_get {W : World} {a : Addr} {n : Nat} {cs : List Value} (h : W.cells? 0 a n = some cs) : cs.length = n ∧ ∀ i, i < n → W.cell? (a.add i) = cs[i]? := by
  unfold World.cells? at h
  rw [if_pos (Nat.zero_le _)] at h
  refine ⟨by simpa using mapM_some_length h, fun i hi => mapM_some_get h i i (by simp [hi])⟩
theorem block_of {W : World} {a : Addr} {vs : List Value} (h : ∀ i (hi : i < vs.length), W.cell? (a.add i) = some vs[i]) (hv : 0 < vs.length) :
    ∃ (b : Nat) (pre post : List Value) (e : TypeId) (fr : Nat × Nat), a = ⟨b, pre.length, none⟩ ∧ W.heap[b]? = some (.cells (pre ++ vs ++ post).toArray e fr) := by
  have h0 := h 0 hv
  have ha : a.add 0 = a := by cases a; simp [Addr.add]
  rw [ha] at h0
  unfold World.cell? at h0
  cases hh : W.heap[a.block]? with
  | none => simp [hh] at h0
  | some x =>
    cases x with
    | cells c e fr =>
      rw [hh] at h0
      cases hs : a.spot with
      | some y => simp [hs] at h0
      | none =>
        have hget : ∀ i (hi : i < vs.length), c[a.off + i]? = some vs[i] := fun i hi => by
          have := h i hi
          unfold World.cell? at this
          have hb : (a.add i).block = a.block ∧ (a.add i).off = a.off + i ∧ (a.add i).spot.isSome = false := by
            unfold Addr.add
            split
            · rename_i h0; subst h0; exact ⟨rfl, rfl, by rw [hs]; rfl⟩
            · exact ⟨rfl, rfl, rfl⟩
          rw [hb.1, hh] at this
          simp only [hb.2.1, hb.2.2, Bool.false_eq_true, if_false] at this
          exact this
        have hlt : a.off < c.size := by
          have := hget 0 hv
          exact (Array.getElem?_eq_some_iff.1 this).1
        refine ⟨a.block, c.toList.take a.off, c.toList.drop (a.off + vs.length), e, fr, ?_, ?_⟩
        · have : (c.toList.take a.off).length = a.off := by simp; omega
          rw [this]
          obtain ⟨b, off, sp⟩ := a
          simp only at hs; subst hs; rfl
        · rw [hh]
          have e1 : c.toList.take a.off ++ vs ++ c.toList.drop (a.off + vs.length) = c.toList := by
            have e2 : (c.toList.drop a.off).take vs.length = vs := by
              apply List.ext_getElem?
              intro i
              rw [List.getElem?_take, List.getElem?_drop]
              split
              · rename_i hi
                rw [List.getElem?_eq_getElem hi, ← hget i hi]; simp
              · rename_i hi; rw [List.getElem?_eq_none (by omega)]
            have e3 := List.take_append_drop vs.length (c.toList.drop a.off)
            rw [e2, List.drop_drop] at e3
            rw [List.append_assoc, e3, List.take_append_drop]
          rw [e1]
    | _ => simp [hh] at h0
section
variable {H : Type} {enc : TypeId × Value → H} {W : World} {sp : Nat → Bool} {held : Bool}
theorem open_rows {t e : TypeId} {k : Kd} (ht : P.underlying t = some (.slice e)) (hc : P.cellsOf e = wd k) (hw : 0 < wd k) (Q : KT k → Prop)
    (hel : ∀ fuel cs (x : DataW H × List MemPlace), DataW.trod enc P W 0 sp held fuel e cs = some x → ∃ y : KT k, cs = KC k y ∧ Q y) {fuel : Nat} {cs : List Value} {x : DataW H × List MemPlace}
    (h : DataW.trod enc P W 0 sp held fuel t cs = some x) : ∃ s : Sl, cs = [.slice s.a s.len s.cap] ∧ ∃ xs : List (KT k), rdS s k xs W ∧ xs.length ≤ 9223372036854775807 ∧ ∀ y ∈ xs, Q y := by
  rcases Deep.open_slice ht h with ⟨rfl, _⟩ | ⟨a, len, cap, m, n, D, Pl, rfl, _, h1, h2, h3, _, h5⟩
  · exact ⟨⟨none, 0, 0⟩, rfl, [], ⟨rfl, Nat.le_refl _, .inl rfl⟩, by simp, by simp⟩
  refine ⟨⟨some a, len, cap⟩, rfl, ?_⟩
  have hm : len ≤ m := by rw [h3]; split <;> omega
  have hmax : maxLen = 9223372036854775807 := by decide
  have hall : ∀ i, i < len → ∃ y : KT k, W.cells? 0 (a.add (i * wd k)) (wd k) = some (KC k y) ∧ Q y := fun i hi => by
    obtain ⟨cs', g1, g2⟩ := h5 i (by omega)
    rw [hc] at g1
    obtain ⟨y, rfl, hq⟩ := hel _ _ _ g2
    exact ⟨y, g1, hq⟩
  have hxs : ∀ n, n ≤ len → ∃ xs : List (KT k), xs.length = n ∧ (∀ i (hi : i < xs.length), W.cells? 0 (a.add (i * wd k)) (wd k) = some (KC k xs[i])) ∧ ∀ y ∈ xs, Q y := by
    intro n
    induction n with
    | zero => exact fun _ => ⟨[], rfl, by simp, by simp⟩
    | succ n ih =>
      intro hn
      obtain ⟨xs, g1, g2, g3⟩ := ih (by omega)
      obtain ⟨y, y1, y2⟩ := hall n (by omega)
      refine ⟨xs ++ [y], by simp [g1], fun i hi => ?_, fun z hz => ?_⟩
      · rcases Nat.lt_or_ge i xs.length with hlt | hge
        · rw [List.getElem_append_left hlt]; exact g2 i hlt
        · have : i = xs.length := by simp at hi; omega
          subst this
          rw [List.getElem_append_right (Nat.le_refl _)]
          simp [g1, y1]
      · rcases List.mem_append.1 hz with hz | hz
        · exact g3 z hz
        · rw [List.mem_singleton.1 hz]; exact y2
  obtain ⟨xs, g1, g2, g3⟩ := hxs len (Nat.le_refl _)
  refine ⟨xs, ⟨g1.symm, h1, ?_⟩, by rw [g1]; omega, g3⟩
  rcases Nat.eq_zero_or_pos len with h0 | h0
  · exact .inl h0
  · right
    have hlen := rows_len k xs
    have hget : ∀ i (hi : i < (rows k xs).length), W.cell? (a.add i) = some (rows k xs)[i] := by
      intro i hi
      have hq : i / wd k < xs.length := by rw [hlen] at hi; exact Nat.div_lt_of_lt_mul (by rw [Nat.mul_comm]; exact hi)
      obtain ⟨c1, c2⟩ := cells_get (g2 _ hq)
      have c3 := c2 (i % wd k) (Nat.mod_lt _ hw)
      rw [Deep.add_add, Nat.mul_comm, Nat.div_add_mod] at c3
      rw [c3]
      have hsp := rows_split (List.getElem?_eq_getElem hq)
      rw [← List.getElem?_eq_getElem hi]
      conv => rhs; rw [hsp]
      rw [rows_append]
      have hl1 : (rows k (xs.take (i / wd k))).length = i / wd k * wd k := by rw [rows_len, List.length_take, Nat.min_eq_left (by omega)]
      have hdm := Nat.div_add_mod i (wd k)
      have hmc : wd k * (i / wd k) = i / wd k * wd k := Nat.mul_comm _ _
      rw [List.getElem?_append_right (by rw [hl1]; omega), hl1]
      have e1 : i - i / wd k * wd k = i % wd k := by omega
      rw [e1, rows, List.flatMap_cons, List.getElem?_append_left (by rw [c1]; exact Nat.mod_lt _ hw)]
    obtain ⟨b, pre, post, e', fr, r1, r2⟩ := block_of hget (by rw [hlen, g1]; exact Nat.mul_pos h0 hw)
    exact ⟨b, pre, post, e', fr, by rw [r1], r2⟩
theorem field_at {t : TypeId} {l : List (String × TypeId × Nat)} (h : (P.fieldsOf t).toList.map (fun f => (f.name, f.type, f.offset)) = l) {i : Nat} {n : String} {ty : TypeId} {off : Nat} (hi : l[i]? = some (n, ty, off)) :
    ∃ f, (P.fieldsOf t)[i]? = some f ∧ f.type = ty ∧ f.offset = off := by
  rw [← h, List.getElem?_map, Option.map_eq_some_iff] at hi
  obtain ⟨f, hf, he⟩ := hi
  simp only [Prod.mk.injEq] at he
  exact ⟨f, by simpa using hf, he.2.1, he.2.2⟩
theorem open_rec {fuel : Nat} {cs : List Value} {x : DataW H × List MemPlace} (h : DataW.trod enc P W 0 sp held fuel ztc cs = some x) : ∃ y : Rec, cs = KC zk2 y := by
  have ht : P.underlying ztc = some (.struct (P.fieldsOf ztc)) := by kernel_rfl
  obtain ⟨xs, n, _, _, hl, hx, hf⟩ := DataW.trod_struct ht h
  have hsz : P.cellsOf ztc = 3 := by kernel_rfl
  have hfs : (P.fieldsOf ztc).size = 3 := by kernel_rfl
  rw [hsz] at hl; rw [hfs] at hx
  have hi : P.underlying zt1 = some (.int .i64) := by kernel_rfl
  have hs : P.underlying zt4 = some .string := by kernel_rfl
  have ci : P.cellsOf zt1 = 1 := by kernel_rfl
  have cst : P.cellsOf zt4 = 1 := by kernel_rfl
  match cs, hl, xs, hx with
  | [c0, c1, c2], _, [x0, x1, x2], _ =>
    obtain ⟨f0, g0, t0, o0⟩ := field_at rec_fields (i := 0) rfl
    obtain ⟨f1, g1, t1, o1⟩ := field_at rec_fields (i := 1) rfl
    obtain ⟨f2, g2, t2, o2⟩ := field_at rec_fields (i := 2) rfl
    have r0 := hf 0 f0 g0
    have r1 := hf 1 f1 g1
    have r2 := hf 2 f2 g2
    rw [t0, o0, ci] at r0; rw [t1, o1, ci] at r1; rw [t2, o2, cst] at r2
    obtain ⟨a, e0, _⟩ := DataW.trod_int hi (show DataW.trod enc P W 0 sp held n zt1 [c0] = some x0 from r0)
    obtain ⟨b, e1, _⟩ := DataW.trod_int hi (show DataW.trod enc P W 0 sp held n zt1 [c1] = some x1 from r1)
    obtain ⟨s, e2, _⟩ := DataW.trod_string hs (show DataW.trod enc P W 0 sp held n zt4 [c2] = some x2 from r2)
    simp only [List.cons.injEq, and_true] at e0 e1 e2
    subst e0; subst e1; subst e2
    exact ⟨(a, b, s.data.toList, ()), rfl⟩
theorem below_all {enc : TypeId × Value → H} {W W' : World} (hl : laidOutB P = true) (hb : RowKit.Below W.heap.size W W') : ∀ {ts : List TypeId} {vs : List Value} {ds : List (DataW H)} {ps : List MemPlace}, (∀ t ∈ ts, P.readableRec t = true ∧ t < P.types.size) →
    DataW.TrodAll enc P W 0 (fun _ => true) true ts vs ds ps → (∀ x ∈ ps, x.block < W.heap.size) → DataW.TrodAll enc P W' 0 (fun b => decide (b < W.heap.size)) true ts vs ds ps
  | [], vs, ds, ps, _, h, _ => by obtain ⟨rfl, rfl, rfl⟩ := ChangeShapes.trodAll_nil h; exact ChangeShapes.trodAll_mk0
  | t :: ts, vs, ds, ps, hr, h, hlt => by
    obtain ⟨v, vs', d, ds', p, q, rfl, rfl, rfl, h1, h2⟩ := ChangeShapes.trodAll_cons h
    obtain ⟨r1, r2⟩ := hr t (List.mem_cons_self ..)
    exact ⟨p, q, hb.trod hl r1 r2 h1 fun x hx => hlt x (List.mem_append_left _ hx), below_all hl hb (fun t ht => hr t (List.mem_cons_of_mem _ ht)) h2 fun x hx => hlt x (List.mem_append_right _ hx), rfl⟩
end
end Go.Proofs.YtpjhflboedicpaaGreatDoor
namespace Go.Proofs.YtpjhflboedicpaaGreatDoor
open Go Go.W
set_option maxRecDepth 100000
section
variable {H : Type} {enc : TypeId × Value → H} {W : World} {sp : Nat → Bool} {held : Bool}
theorem grid_fields : (P.fieldsOf zt5).toList.map (fun f => (f.name, f.type, f.offset)) = [("Size", zt1, 0), ("Hop", zt1, 1), ("Late", zt1, 2)] := by kernel_rfl
theorem open_grid {fuel : Nat} {cs : List Value} {x : DataW H × List MemPlace} (h : DataW.trod enc P W 0 sp held fuel zt5 cs = some x) : ∃ y : zT0, cs = KC zk0 y := by
  have ht : P.underlying zt5 = some (.struct (P.fieldsOf zt5)) := by kernel_rfl
  obtain ⟨xs, n, _, _, hl, hx, hf⟩ := DataW.trod_struct ht h
  have hsz : P.cellsOf zt5 = 3 := by kernel_rfl
  have hfs : (P.fieldsOf zt5).size = 3 := by kernel_rfl
  rw [hsz] at hl; rw [hfs] at hx
  have hi : P.underlying zt1 = some (.int .i64) := by kernel_rfl
  have ci : P.cellsOf zt1 = 1 := by kernel_rfl
  match cs, hl, xs, hx with
  | [c0, c1, c2], _, [x0, x1, x2], _ =>
    obtain ⟨f0, g0, t0, o0⟩ := field_at grid_fields (i := 0) rfl
    obtain ⟨f1, g1, t1, o1⟩ := field_at grid_fields (i := 1) rfl
    obtain ⟨f2, g2, t2, o2⟩ := field_at grid_fields (i := 2) rfl
    have r0 := hf 0 f0 g0
    have r1 := hf 1 f1 g1
    have r2 := hf 2 f2 g2
    rw [t0, o0, ci] at r0; rw [t1, o1, ci] at r1; rw [t2, o2, ci] at r2
    obtain ⟨a, e0, _⟩ := DataW.trod_int hi (show DataW.trod enc P W 0 sp held n zt1 [c0] = some x0 from r0)
    obtain ⟨b, e1, _⟩ := DataW.trod_int hi (show DataW.trod enc P W 0 sp held n zt1 [c1] = some x1 from r1)
    obtain ⟨c, e2, _⟩ := DataW.trod_int hi (show DataW.trod enc P W 0 sp held n zt1 [c2] = some x2 from r2)
    simp only [List.cons.injEq, and_true] at e0 e1 e2
    subst e0; subst e1; subst e2
    exact ⟨(a, b, c, ()), rfl⟩
theorem open_recs {fuel : Nat} {cs : List Value} {x : DataW H × List MemPlace} (h : DataW.trod enc P W 0 sp held fuel zt6 cs = some x) : ∃ s : Sl, cs = [.slice s.a s.len s.cap] ∧ ∃ rs : List Rec, rdS s zk2 rs W := by
  have hs : P.underlying zt6 = some (.slice ztc) := by kernel_rfl
  obtain ⟨s, e, rs, h1, _, _⟩ := open_rows hs (k := zk2) (by kernel_rfl) (by decide) (fun _ => True) (fun fuel cs x h => by obtain ⟨y, hy⟩ := open_rec h; exact ⟨y, hy, trivial⟩) h
  exact ⟨s, e, rs, h1⟩
theorem open_nums {fuel : Nat} {cs : List Value} {x : DataW H × List MemPlace} (h : DataW.trod enc P W 0 sp held fuel zt7 cs = some x) : ∃ s : Sl, cs = [.slice s.a s.len s.cap] ∧ ∃ ks : List Int, rdS s I ks W := by
  have hs : P.underlying zt7 = some (.slice zt1) := by kernel_rfl
  have hi : P.underlying zt1 = some (.int .i64) := by kernel_rfl
  obtain ⟨s, e, ks, h1, _, _⟩ := open_rows hs (k := I) (by kernel_rfl) (by decide) (fun _ => True) (fun fuel cs x h => by obtain ⟨a, e, _⟩ := DataW.trod_int hi h; exact ⟨a, e, trivial⟩) h
  exact ⟨s, e, ks, h1⟩
end
end Go.Proofs.YtpjhflboedicpaaGreatDoor
namespace Go.Proofs.YtpjhflboedicpaaGreatDoor
open Go Go.W
open Go.ChangeShapes Go.WideShapes Go.RowKit
set_option maxRecDepth 100000
theorem Calls_of_mcall {f : Nat} {args : List Value} {k : Kd} {K : KT k → World → Prop} {w : World} (he : Enters P f) (h : mcall P f args k K w) : Calls P f args.toArray w fun e w' => ∃ x, e = .returned (KV k x) ∧ K x w' := by
  cases h with
  | enter _ hc => exact hc
  | ext x w' hr hk => rw [he] at hr; cases hr
theorem own : ownKnob P.godebug = none := by kernel_rfl
theorem laidOut : laidOutB P = true := by kernel_rfl
theorem params_eq : Tryz.f3.params.toList = [zt5, zt6, zt1, zt1, zt7] := by kernel_rfl
theorem lifted (os : Os) (started : os.Started) (H : Type) (enc : TypeId × Value → H) :
    ReturnsInHanded {} Tryz.checked os 3 .any (fun w args => (Rows.topCleanedSpec.pre enc Tryz.prog Tryz.f3 [] false w args ∧ laidMetH Tryz.prog Rows.topCleanedRow.laid w) ∧ sizedMet enc Tryz.prog Tryz.f3 (OpenSpec.ofChange Rows.topCleanedSpec) false w args)
      (Rows.topCleanedSpec.post enc Tryz.prog Tryz.f3 false true false false) := by
  refine returnsInHanded_of_change_and (C := Tryz.checked) (X := fun w _ => laidMetH Tryz.prog Rows.topCleanedRow.laid w) (fun _ _ _ hh h => h.of_heap hh) own started (by kernel_rfl) Tryz.func3
    (ChangeSpec.witness_shaped (enc := enc) (C := Tryz.checked) (os := os) (X := fun w _ => laidMetH Tryz.prog Rows.topCleanedRow.laid w) false (World.laidAll Tryz.prog os Rows.topCleanedRow.laid) #[.agg #[.int .i64 0, .int .i64 0, .int .i64 0], .slice none 0 0, .int .i64 0, .int .i64 0, .slice none 0 0] 8 (World.laidAll_os _ _ _)
      (World.shaped_of_ZipB (by kernel_rfl) (by kernel_rfl)) (by kernel_rfl) (by kernel_rfl) (by kernel_rfl)
      (by rw [MakeChecks.laidMetH_plain _ _ _ (by kernel_rfl)]; exact laidMet_laidAll _ (by kernel_rfl) (by kernel_rfl))) ?_
  intro W base args ds gs before hval0 hW _ _ hL _
  have hval : ∀ (j : Nat) t v, Tryz.f3.params[j]? = some t → args[j]? = some v → Value.okWide Tryz.prog W .any base t v := hval0
  have hW' := hW
  obtain ⟨p, q, hA0, hV, rfl, _, _⟩ := hW
  have hA : DataW.TrodAll enc Tryz.prog W 0 (fun _ => true) true Tryz.f3.params.toList args.toList ds p := hA0
  obtain ⟨rfl, rfl⟩ := trodVars_none hV
  have hlt : ∀ x ∈ p, x.block < W.heap.size := fun x hx => hW'.lt x (by simp [hx])
  have hA2 := hA
  rw [params_eq] at hA2
  obtain ⟨v0, vs1, d0, ds1, p0, q1, e1, rfl, rfl, h0, hB1⟩ := trodAll_cons hA2
  obtain ⟨v1, vs2, d1, ds2, p1, q2, rfl, rfl, rfl, h1, hB2⟩ := trodAll_cons hB1
  obtain ⟨v2, vs3, d2, ds3, p2, q3, rfl, rfl, rfl, h2, hB3⟩ := trodAll_cons hB2
  obtain ⟨v3, vs4, d3, ds4, p3, q4, rfl, rfl, rfl, h3, hB4⟩ := trodAll_cons hB3
  obtain ⟨v4, vs5, d4, ds5, p4, q5, rfl, rfl, rfl, h4, hB5⟩ := trodAll_cons hB4
  obtain ⟨rfl, rfl, rfl⟩ := trodAll_nil hB5
  obtain rfl : args = #[v0, v1, v2, v3, v4] := Array.toList_inj.1 e1
  have pr : ∀ j : Nat, Tryz.f3.params[j]? = [zt5, zt6, zt1, zt1, zt7][j]? := fun j => by rw [← params_eq, Array.getElem?_toList]
  obtain ⟨cs0, rfl, _⟩ := okWide_struct (fs := P.fieldsOf zt5) (by kernel_rfl) (hval 0 zt5 v0 (pr 0) rfl)
  obtain ⟨a1, l1, c1, rfl⟩ := okWide_slice (e := ztc) (by kernel_rfl) (hval 1 zt6 v1 (pr 1) rfl)
  obtain ⟨u, rfl⟩ := okWide_int (k := .i64) (by kernel_rfl) (hval 2 zt1 v2 (pr 2) rfl)
  obtain ⟨fz, rfl⟩ := okWide_int (k := .i64) (by kernel_rfl) (hval 3 zt1 v3 (pr 3) rfl)
  obtain ⟨a4, l4, c4, rfl⟩ := okWide_slice (e := zt1) (by kernel_rfl) (hval 4 zt7 v4 (pr 4) rfl)
  obtain ⟨f0, g0⟩ := h0
  obtain ⟨g, hg⟩ := open_grid (show DataW.trod enc P W 0 (fun _ => true) true f0 zt5 cs0.toList = some (d0, p0) from g0)
  obtain rfl : cs0 = (KC zk0 g).toArray := Array.toList_inj.1 (by rw [hg])
  obtain ⟨f1, g1⟩ := h1
  obtain ⟨s, e, rs, hrs⟩ := open_recs (show DataW.trod enc P W 0 (fun _ => true) true f1 zt6 [.slice a1 l1 c1] = some (d1, p1) from by simpa [Value.cells] using g1)
  simp only [List.cons.injEq, Value.slice.injEq, and_true] at e
  obtain ⟨rfl, rfl, rfl⟩ := e
  obtain ⟨f4, g4⟩ := h4
  obtain ⟨kp, e, ks, hks⟩ := open_nums (show DataW.trod enc P W 0 (fun _ => true) true f4 zt7 [.slice a4 l4 c4] = some (d4, p4) from by simpa [Value.cells] using g4)
  simp only [List.cons.injEq, Value.slice.injEq, and_true] at e
  obtain ⟨rfl, rfl, rfl⟩ := e
  haveI : RdS s zk2 rs [heapA W] := rdS.old hrs
  haveI : RdS kp I ks [heapA W] := rdS.old hks
  have hcall := TopCleaned_ok (R := fun b w => b = true ∧ SH (fixOf W) [heapA W] w) (heapA_start W) (g := g) (l := s) (kp := kp) (rs := rs) (ks := ks) (u := u) (fz := fz) (fun w h => ⟨rfl, h⟩)
  have hE : Enters P n_zf0 := .of Tryz.func3 (c := (Tryz.f3.body).getD .skip) (by kernel_rfl) (by kernel_rfl)
  refine (Calls_of_mcall hE hcall).mono fun e W' he => ?_
  obtain ⟨b, rfl, rfl, hsh⟩ := he
  have hb := heapA_below hsh
  refine ⟨_, rfl, ChangeSpec.post_alike (W'' := { W' with tape := W.tape }) ?_ ⟨rfl, rfl, rfl⟩⟩
  refine ⟨_, _, _, [], p0 ++ (p1 ++ (p2 ++ (p3 ++ (p4 ++ [])))), [], hW', trodAll_mk1 (shut_bool (by kernel_rfl) _), ?_, rfl, hb.frame _, fun h => by cases h⟩
  have hread : ∀ t ∈ Tryz.f3.params.toList, P.readableRec t = true ∧ t < P.types.size := by
    rw [params_eq]
    intro t ht
    simp only [List.mem_cons, List.not_mem_nil, or_false] at ht
    have r1 : P.readableRec zt5 = true := by kernel_rfl
    have r2 : P.readableRec zt6 = true := by kernel_rfl
    have r3 : P.readableRec zt1 = true := by kernel_rfl
    have r4 : P.readableRec zt7 = true := by kernel_rfl
    have z1 : zt5 < P.types.size := of_decide_eq_true (by kernel_rfl)
    have z2 : zt6 < P.types.size := of_decide_eq_true (by kernel_rfl)
    have z3 : zt1 < P.types.size := of_decide_eq_true (by kernel_rfl)
    have z4 : zt7 < P.types.size := of_decide_eq_true (by kernel_rfl)
    rcases ht with rfl | rfl | rfl | rfl | rfl
    · exact ⟨r1, z1⟩
    · exact ⟨r2, z2⟩
    · exact ⟨r3, z3⟩
    · exact ⟨r3, z3⟩
    · exact ⟨r4, z4⟩
  exact below_all laidOut hb hread hA hlt
theorem topCleaned_holds : Rows.TopCleanedSaid :=
  OpenClaim.holds_of_wide 3 Tryz.f3 rfl rfl rfl rfl rfl rfl rfl ⟨rfl, rfl, rfl, rfl, rfl⟩ rfl rfl rfl rfl rfl (by kernel_rfl) Tryz.func3 (by kernel_rfl)
    (of_decide_eq_true (by kernel_rfl)) (by unfold Func.isWrapper; rw [if_neg (of_decide_eq_false (by kernel_rfl))]; exact ⟨rfl, rfl⟩)
    (fun os started H enc _ => lifted os started H enc)
theorem topCleaned_card : Rows.TopCleanedCardSaid :=
  Claim7.holds_tied_plain_at .later [] [.data, .pinned] true (true, "e68afb300fc3aa96b4f33eddea88396c849b58b4a8d23cbd90f48552f906c700") false
    topCleaned_holds (fun _ h => by cases h) (by kernel_rfl) (fun _ h => by cases h) topCleaned_row_tie rfl ⟨rfl, rfl⟩ (by kernel_rfl) rfl
    (fun f fn hf hfn => by
      obtain rfl : f = 3 := Option.some.inj ((show Tryz.prog.funcNamed "headgate/headgatetop.TopCleaned" = some 3 by kernel_rfl).symm.trans hf) |>.symm
      obtain rfl : fn = Tryz.f3 := (Option.some.inj (Tryz.func3.symm.trans hfn)).symm
      exact ⟨by kernel_rfl, fun j t ht => by
        have hm : t ∈ [zt5, zt6, zt1, zt1, zt7] := by rw [← params_eq]; exact Array.mem_toList_iff.2 (Array.mem_of_getElem? ht)
        have w1 : Tryz.prog.wantsStandIn zt5 = false := by kernel_rfl
        have w2 : Tryz.prog.wantsStandIn zt6 = false := by kernel_rfl
        have w3 : Tryz.prog.wantsStandIn zt1 = false := by kernel_rfl
        have w4 : Tryz.prog.wantsStandIn zt7 = false := by kernel_rfl
        simp only [List.mem_cons, List.not_mem_nil, or_false] at hm
        rcases hm with rfl | rfl | rfl | rfl | rfl
        · exact w1
        · exact w2
        · exact w3
        · exact w3
        · exact w4⟩)
    (by kernel_rfl)
#print axioms topCleaned_card
end Go.Proofs.YtpjhflboedicpaaGreatDoor
