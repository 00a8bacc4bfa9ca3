/- The statement and its card are proved. No condition. -/
import Derived.Test.YtegjokkkdkaphaaGreatDoorMe
import Derived.ProofKit
import Derived.Deep.Slices
import Derived.Test.YtegjokkkdkaphaaGreatDoorCards
import Derived.Test.YtegjokkkdkaphaaGreatDoorTie
import Derived.Lay
import Derived.SevenTiedAt
set_option linter.unusedVariables false
set_option linter.unusedSimpArgs false
/- From the row's reading of lists of records and of batches to what the contracts ask of them. -/
namespace Go.Proofs.YtegjokkkdkaphaaGreatDoor
open Go Go.W
set_option maxRecDepth 100000

/-- All that was there when the call began, for reading. -/
def heapA (W : World) : Assn := ⟨fun π h => (∀ (b : Nat) (x : Obj), W.heap[b]? = some x → π b = some x) ∧ h = Frag.emp, fun hl h => ⟨fun b x hb => hl b x (h.1 b x hb), h.2⟩⟩
def fixOf (W : World) : Fix := ⟨W.os, W.output⟩
theorem heapA_start (W : World) : SH (fixOf W) [heapA W] W :=
  ⟨fun b => W.heap[b]?, Frag.emp, Frag.disj_emp _, fun b x h => h, fun b x h => by simp [Frag.emp] at h, rfl, rfl, Frag.emp, Frag.emp, Frag.emp_disj _, (Frag.emp_add _).symm, ⟨fun b x h => h, rfl⟩, rfl⟩
theorem heapA_keeps {o : Fix} {Γ : List Assn} {W w : World} (h : SH o (heapA W :: Γ) w) : ∀ (b : Nat) (x : Obj), W.heap[b]? = some x → w.heap[b]? = some x := by
  obtain ⟨π, h, h1, h2, h3, h4, h5, a, r, hd, he, ⟨g1, g2⟩, hs⟩ := h
  exact fun b x hb => h2 b x (g1 b x hb)
theorem heapA_below {W w : World} (h : SH (fixOf W) [heapA W] w) : RowKit.Below W.heap.size W { w with tape := W.tape } := by
  have hk := heapA_keeps h
  obtain ⟨π, h, h1, h2, h3, h4, h5, _⟩ := h
  refine ⟨h4, rfl, h5, ?_, fun k hlt => ?_⟩
  · rcases Nat.eq_zero_or_pos W.heap.size with h0 | h0
    · omega
    · have hx : W.heap[W.heap.size - 1]? = some W.heap[W.heap.size - 1] := Array.getElem?_eq_getElem (by omega)
      obtain ⟨hl, _⟩ := Array.getElem?_eq_some_iff.1 (hk _ _ hx)
      show W.heap.size ≤ w.heap.size
      omega
  · have hx : W.heap[k]? = some W.heap[k] := Array.getElem?_eq_getElem hlt
    show w.heap[k]? = W.heap[k]?
    rw [hx]; exact hk _ _ hx
theorem rdS.old {s : Sl} {k : Kd} {xs : List (KT k)} {W : World} {Γ : List Assn} (h : rdS s k xs W) : RdS s k xs (heapA W :: Γ) := by
  refine ⟨fun hs => ?_⟩
  obtain ⟨h1, h2, h3⟩ := h
  refine ⟨h1, h2, h3.imp id ?_⟩
  rintro ⟨b, pre, post, e, fr, g1, g2⟩
  exact ⟨b, pre, post, e, fr, g1, heapA_keeps hs _ _ g2⟩

theorem cells_get {W : World} {a : Addr} {n : Nat} {cs : List Value} (h : W.cells? 0 a n = some cs) : cs.length = n ∧ ∀ i, i < n → W.cell? (a.add i) = cs[i]? := by
  unfold World.cells? at h
  rw [if_pos (Nat.zero_le _)] at h
  refine ⟨by simpa using mapM_some_length h, fun i hi => mapM_some_get h i i (by simp [hi])⟩

/-- A run of cells in one block. -/
theorem block_of {W : World} {a : Addr} {vs : List Value} (h : ∀ i (hi : i < vs.length), W.cell? (a.add i) = some vs[i]) (hv : 0 < vs.length) :
    ∃ (b : Nat) (pre post : List Value) (e : TypeId) (fr : Nat × Nat), a = ⟨b, pre.length, none⟩ ∧ W.heap[b]? = some (.cells (pre ++ vs ++ post).toArray e fr) := by
  have h0 := h 0 hv
  have ha : a.add 0 = a := by cases a; simp [Addr.add]
  rw [ha] at h0
  unfold World.cell? at h0
  cases hh : W.heap[a.block]? with
  | none => simp [hh] at h0
  | some x =>
    cases x with
    | cells c e fr =>
      rw [hh] at h0
      cases hs : a.spot with
      | some y => simp [hs] at h0
      | none =>
        have hget : ∀ i (hi : i < vs.length), c[a.off + i]? = some vs[i] := fun i hi => by
          have := h i hi
          unfold World.cell? at this
          have hb : (a.add i).block = a.block ∧ (a.add i).off = a.off + i ∧ (a.add i).spot.isSome = false := by
            unfold Addr.add
            split
            · rename_i h0; subst h0; exact ⟨rfl, rfl, by rw [hs]; rfl⟩
            · exact ⟨rfl, rfl, rfl⟩
          rw [hb.1, hh] at this
          simp only [hb.2.1, hb.2.2, Bool.false_eq_true, if_false] at this
          exact this
        have hlt : a.off < c.size := by
          have := hget 0 hv
          exact (Array.getElem?_eq_some_iff.1 this).1
        refine ⟨a.block, c.toList.take a.off, c.toList.drop (a.off + vs.length), e, fr, ?_, ?_⟩
        · have : (c.toList.take a.off).length = a.off := by simp; omega
          rw [this]
          obtain ⟨b, off, sp⟩ := a
          simp only at hs; subst hs; rfl
        · rw [hh]
          have e1 : c.toList.take a.off ++ vs ++ c.toList.drop (a.off + vs.length) = c.toList := by
            have e2 : (c.toList.drop a.off).take vs.length = vs := by
              apply List.ext_getElem?
              intro i
              rw [List.getElem?_take, List.getElem?_drop]
              split
              · rename_i hi
                rw [List.getElem?_eq_getElem hi, ← hget i hi]; simp
              · rename_i hi; rw [List.getElem?_eq_none (by omega)]
            have e3 := List.take_append_drop vs.length (c.toList.drop a.off)
            rw [e2, List.drop_drop] at e3
            rw [List.append_assoc, e3, List.take_append_drop]
          rw [e1]
    | _ => simp [hh] at h0

section
variable {H : Type} {enc : TypeId × Value → H} {W : World} {sp : Nat → Bool} {held : Bool}

/-- A slice whose elements have a kind. -/
theorem open_rows {t e : TypeId} {k : Kd} (ht : P.underlying t = some (.slice e)) (hc : P.cellsOf e = wd k) (hw : 0 < wd k) (Q : KT k → Prop)
    (hel : ∀ fuel cs (x : DataW H × List MemPlace), DataW.trod enc P W 0 sp held fuel e cs = some x → ∃ y : KT k, cs = KC k y ∧ Q y) {fuel : Nat} {cs : List Value} {x : DataW H × List MemPlace}
    (h : DataW.trod enc P W 0 sp held fuel t cs = some x) : ∃ s : Sl, cs = [.slice s.a s.len s.cap] ∧ ∃ xs : List (KT k), rdS s k xs W ∧ xs.length ≤ 9223372036854775807 ∧ ∀ y ∈ xs, Q y := by
  rcases Deep.open_slice ht h with ⟨rfl, _⟩ | ⟨a, len, cap, m, n, D, Pl, rfl, _, h1, h2, h3, _, h5⟩
  · exact ⟨⟨none, 0, 0⟩, rfl, [], ⟨rfl, Nat.le_refl _, .inl rfl⟩, by simp, by simp⟩
  refine ⟨⟨some a, len, cap⟩, rfl, ?_⟩
  have hm : len ≤ m := by rw [h3]; split <;> omega
  have hmax : maxLen = 9223372036854775807 := by decide
  have hall : ∀ i, i < len → ∃ y : KT k, W.cells? 0 (a.add (i * wd k)) (wd k) = some (KC k y) ∧ Q y := fun i hi => by
    obtain ⟨cs', g1, g2⟩ := h5 i (by omega)
    rw [hc] at g1
    obtain ⟨y, rfl, hq⟩ := hel _ _ _ g2
    exact ⟨y, g1, hq⟩
  have hxs : ∀ n, n ≤ len → ∃ xs : List (KT k), xs.length = n ∧ (∀ i (hi : i < xs.length), W.cells? 0 (a.add (i * wd k)) (wd k) = some (KC k xs[i])) ∧ ∀ y ∈ xs, Q y := by
    intro n
    induction n with
    | zero => exact fun _ => ⟨[], rfl, by simp, by simp⟩
    | succ n ih =>
      intro hn
      obtain ⟨xs, g1, g2, g3⟩ := ih (by omega)
      obtain ⟨y, y1, y2⟩ := hall n (by omega)
      refine ⟨xs ++ [y], by simp [g1], fun i hi => ?_, fun z hz => ?_⟩
      · rcases Nat.lt_or_ge i xs.length with hlt | hge
        · rw [List.getElem_append_left hlt]; exact g2 i hlt
        · have : i = xs.length := by simp at hi; omega
          subst this
          rw [List.getElem_append_right (Nat.le_refl _)]
          simp [g1, y1]
      · rcases List.mem_append.1 hz with hz | hz
        · exact g3 z hz
        · rw [List.mem_singleton.1 hz]; exact y2
  obtain ⟨xs, g1, g2, g3⟩ := hxs len (Nat.le_refl _)
  refine ⟨xs, ⟨g1.symm, h1, ?_⟩, by rw [g1]; omega, g3⟩
  rcases Nat.eq_zero_or_pos len with h0 | h0
  · exact .inl h0
  · right
    have hlen := rows_len k xs
    have hget : ∀ i (hi : i < (rows k xs).length), W.cell? (a.add i) = some (rows k xs)[i] := by
      intro i hi
      have hq : i / wd k < xs.length := by rw [hlen] at hi; exact Nat.div_lt_of_lt_mul (by rw [Nat.mul_comm]; exact hi)
      obtain ⟨c1, c2⟩ := cells_get (g2 _ hq)
      have c3 := c2 (i % wd k) (Nat.mod_lt _ hw)
      rw [Deep.add_add, Nat.mul_comm, Nat.div_add_mod] at c3
      rw [c3]
      have hsp := rows_split (List.getElem?_eq_getElem hq)
      rw [← List.getElem?_eq_getElem hi]
      conv => rhs; rw [hsp]
      rw [rows_append]
      have hl1 : (rows k (xs.take (i / wd k))).length = i / wd k * wd k := by rw [rows_len, List.length_take, Nat.min_eq_left (by omega)]
      have hdm := Nat.div_add_mod i (wd k)
      have hmc : wd k * (i / wd k) = i / wd k * wd k := Nat.mul_comm _ _
      rw [List.getElem?_append_right (by rw [hl1]; omega), hl1]
      have e1 : i - i / wd k * wd k = i % wd k := by omega
      rw [e1, rows, List.flatMap_cons, List.getElem?_append_left (by rw [c1]; exact Nat.mod_lt _ hw)]
    obtain ⟨b, pre, post, e', fr, r1, r2⟩ := block_of hget (by rw [hlen, g1]; exact Nat.mul_pos h0 hw)
    exact ⟨b, pre, post, e', fr, by rw [r1], r2⟩

theorem field_at {t : TypeId} {l : List (String × TypeId × Nat)} (h : (P.fieldsOf t).toList.map (fun f => (f.name, f.type, f.offset)) = l) {i : Nat} {n : String} {ty : TypeId} {off : Nat} (hi : l[i]? = some (n, ty, off)) :
    ∃ f, (P.fieldsOf t)[i]? = some f ∧ f.type = ty ∧ f.offset = off := by
  rw [← h, List.getElem?_map, Option.map_eq_some_iff] at hi
  obtain ⟨f, hf, he⟩ := hi
  simp only [Prod.mk.injEq] at he
  exact ⟨f, by simpa using hf, he.2.1, he.2.2⟩

theorem open_rec {fuel : Nat} {cs : List Value} {x : DataW H × List MemPlace} (h : DataW.trod enc P W 0 sp held fuel t_api_Record cs = some x) : ∃ y : Rec, cs = KC k_api_Record y := by
  have ht : P.underlying t_api_Record = some (.struct (P.fieldsOf t_api_Record)) := by kernel_rfl
  obtain ⟨xs, n, _, _, hl, hx, hf⟩ := DataW.trod_struct ht h
  have hsz : P.cellsOf t_api_Record = 3 := by kernel_rfl
  have hfs : (P.fieldsOf t_api_Record).size = 3 := by kernel_rfl
  rw [hsz] at hl; rw [hfs] at hx
  have hi : P.underlying t_int = some (.int .i64) := by kernel_rfl
  have hs : P.underlying t_string = some .string := by kernel_rfl
  have ci : P.cellsOf t_int = 1 := by kernel_rfl
  have cst : P.cellsOf t_string = 1 := by kernel_rfl
  match cs, hl, xs, hx with
  | [c0, c1, c2], _, [x0, x1, x2], _ =>
    obtain ⟨f0, g0, t0, o0⟩ := field_at rec_fields (i := 0) rfl
    obtain ⟨f1, g1, t1, o1⟩ := field_at rec_fields (i := 1) rfl
    obtain ⟨f2, g2, t2, o2⟩ := field_at rec_fields (i := 2) rfl
    have r0 := hf 0 f0 g0
    have r1 := hf 1 f1 g1
    have r2 := hf 2 f2 g2
    rw [t0, o0, ci] at r0; rw [t1, o1, ci] at r1; rw [t2, o2, cst] at r2
    obtain ⟨a, e0, _⟩ := DataW.trod_int hi (show DataW.trod enc P W 0 sp held n t_int [c0] = some x0 from r0)
    obtain ⟨b, e1, _⟩ := DataW.trod_int hi (show DataW.trod enc P W 0 sp held n t_int [c1] = some x1 from r1)
    obtain ⟨s, e2, _⟩ := DataW.trod_string hs (show DataW.trod enc P W 0 sp held n t_string [c2] = some x2 from r2)
    simp only [List.cons.injEq, and_true] at e0 e1 e2
    subst e0; subst e1; subst e2
    exact ⟨(a, b, s.data.toList, ()), rfl⟩

theorem batch_fields : (P.fieldsOf t_api_Batch).toList.map (fun f => (f.name, f.type, f.offset)) = [("Kind", t_int, 0), ("PID", t_int, 1), ("Epoch", t_int, 2), ("Seq", t_int, 3), ("L", t_sl_api_Record, 4)] := by kernel_rfl
theorem open_batch {fuel : Nat} {cs : List Value} {x : DataW H × List MemPlace} (h : DataW.trod enc P W 0 sp held fuel t_api_Batch cs = some x) :
    ∃ y : T_api_Batch, cs = KC k_api_Batch y ∧ ∃ rs : List Rec, rdS y.2.2.2.2.1 k_api_Record rs W ∧ rs.length ≤ 9223372036854775807 := by
  have ht : P.underlying t_api_Batch = some (.struct (P.fieldsOf t_api_Batch)) := by kernel_rfl
  obtain ⟨xs, n, _, _, hl, hx, hf⟩ := DataW.trod_struct ht h
  have hsz : P.cellsOf t_api_Batch = 5 := by kernel_rfl
  have hfs : (P.fieldsOf t_api_Batch).size = 5 := by kernel_rfl
  rw [hsz] at hl; rw [hfs] at hx
  have hi : P.underlying t_int = some (.int .i64) := by kernel_rfl
  have hs : P.underlying t_sl_api_Record = some (.slice t_api_Record) := by kernel_rfl
  have ci : P.cellsOf t_int = 1 := by kernel_rfl
  have cst : P.cellsOf t_sl_api_Record = 1 := by kernel_rfl
  match cs, hl, xs, hx with
  | [c0, c1, c2, c3, c4], _, [x0, x1, x2, x3, x4], _ =>
    obtain ⟨f0, g0, t0, o0⟩ := field_at batch_fields (i := 0) rfl
    obtain ⟨f1, g1, t1, o1⟩ := field_at batch_fields (i := 1) rfl
    obtain ⟨f2, g2, t2, o2⟩ := field_at batch_fields (i := 2) rfl
    obtain ⟨f3, g3, t3, o3⟩ := field_at batch_fields (i := 3) rfl
    obtain ⟨f4, g4, t4, o4⟩ := field_at batch_fields (i := 4) rfl
    have r0 := hf 0 f0 g0
    have r1 := hf 1 f1 g1
    have r2 := hf 2 f2 g2
    have r3 := hf 3 f3 g3
    have r4 := hf 4 f4 g4
    rw [t0, o0, ci] at r0; rw [t1, o1, ci] at r1; rw [t2, o2, ci] at r2; rw [t3, o3, ci] at r3; rw [t4, o4, cst] at r4
    obtain ⟨a, e0, _⟩ := DataW.trod_int hi (show DataW.trod enc P W 0 sp held n t_int [c0] = some x0 from r0)
    obtain ⟨b, e1, _⟩ := DataW.trod_int hi (show DataW.trod enc P W 0 sp held n t_int [c1] = some x1 from r1)
    obtain ⟨c, e2, _⟩ := DataW.trod_int hi (show DataW.trod enc P W 0 sp held n t_int [c2] = some x2 from r2)
    obtain ⟨d, e3, _⟩ := DataW.trod_int hi (show DataW.trod enc P W 0 sp held n t_int [c3] = some x3 from r3)
    obtain ⟨s, e4, rs, hrs, hlen, _⟩ := open_rows hs (k := k_api_Record) (by kernel_rfl) (by decide) (fun _ => True) (fun fuel cs x h => by obtain ⟨y, hy⟩ := open_rec h; exact ⟨y, hy, trivial⟩)
      (show DataW.trod enc P W 0 sp held n t_sl_api_Record [c4] = some x4 from r4)
    simp only [List.cons.injEq, and_true] at e0 e1 e2 e3 e4
    subst e0; subst e1; subst e2; subst e3; subst e4
    exact ⟨(a, b, c, d, s, ()), rfl, rs, hrs, hlen⟩

theorem open_batches {fuel : Nat} {cs : List Value} {x : DataW H × List MemPlace} (h : DataW.trod enc P W 0 sp held fuel t_sl_api_Batch cs = some x) :
    ∃ s : Sl, cs = [.slice s.a s.len s.cap] ∧ ∃ bs : List T_api_Batch, rdS s k_api_Batch bs W ∧ ∀ b ∈ bs, ∃ rs : List Rec, rdS b.2.2.2.2.1 k_api_Record rs W ∧ rs.length ≤ 9223372036854775807 := by
  have hs : P.underlying t_sl_api_Batch = some (.slice t_api_Batch) := by kernel_rfl
  obtain ⟨s, e, bs, h1, _, h3⟩ := open_rows hs (k := k_api_Batch) (by kernel_rfl) (by decide) (fun b => ∃ rs : List Rec, rdS b.2.2.2.2.1 k_api_Record rs W ∧ rs.length ≤ 9223372036854775807) (fun fuel cs x h => open_batch h) h
  exact ⟨s, e, bs, h1, h3⟩
end
end Go.Proofs.YtegjokkkdkaphaaGreatDoor
/- TopTorn: the row and its card. -/
namespace Go.Proofs.YtegjokkkdkaphaaGreatDoor
open Go Go.W
open Go.ChangeShapes Go.WideShapes Go.RowKit
set_option maxRecDepth 100000

theorem Calls_of_mcall {f : Nat} {args : List Value} {k : Kd} {K : KT k → World → Prop} {w : World} (he : Enters P f) (h : mcall P f args k K w) : Calls P f args.toArray w fun e w' => ∃ x, e = .returned (KV k x) ∧ K x w' := by
  cases h with
  | enter _ hc => exact hc
  | ext x w' hr hk => rw [he] at hr; cases hr

theorem own : ownKnob P.godebug = none := by kernel_rfl
theorem laidOut : laidOutB P = true := by kernel_rfl

theorem lifted (os : Os) (started : os.Started) (H : Type) (enc : TypeId × Value → H) :
    ReturnsInHanded {} Tryz.checked os 3 .any (fun w args => (Rows.topTornSpec.pre enc Tryz.prog Tryz.f3 [] false w args ∧ laidMetH Tryz.prog Rows.topTornRow.laid w) ∧ sizedMet enc Tryz.prog Tryz.f3 (OpenSpec.ofChange Rows.topTornSpec) false w args)
      (Rows.topTornSpec.post enc Tryz.prog Tryz.f3 false true false false) := by
  refine returnsInHanded_of_change_and (C := Tryz.checked) (X := fun w _ => laidMetH Tryz.prog Rows.topTornRow.laid w) (fun _ _ _ hh h => h.of_heap hh) own started (by kernel_rfl) Tryz.func3
    (ChangeSpec.witness_shaped (enc := enc) (C := Tryz.checked) (os := os) (X := fun w _ => laidMetH Tryz.prog Rows.topTornRow.laid w) false (World.laidAll Tryz.prog os Rows.topTornRow.laid) #[.slice none 0 0, .int .i64 0] 8 (World.laidAll_os _ _ _)
      (World.shaped_of_ZipB (by kernel_rfl) (by kernel_rfl)) (by kernel_rfl) (by kernel_rfl) (by kernel_rfl)
      (by rw [MakeChecks.laidMetH_plain _ _ _ (by kernel_rfl)]; exact laidMet_laidAll _ (by kernel_rfl) (by kernel_rfl))) ?_
  intro W base args ds gs before hval0 hW _ _ hL _
  have hval : ∀ (j : Nat) t v, Tryz.f3.params[j]? = some t → args[j]? = some v → Value.okWide Tryz.prog W .any base t v := hval0
  have hW' := hW
  obtain ⟨p, q, hA0, hV, rfl, _, _⟩ := hW
  have hA : DataW.TrodAll enc Tryz.prog W 0 (fun _ => true) true Tryz.f3.params.toList args.toList ds p := hA0
  rw [Tryz.params3] at hA hval
  obtain ⟨v0, v1, d0, d1, p0, p1, rfl, rfl, rfl, h0, h1⟩ := trodAll_two hA
  obtain ⟨rfl, rfl⟩ := trodVars_none hV
  obtain ⟨a0, len, cap, rfl⟩ := okWide_slice (e := t_api_Batch) (by kernel_rfl) (hval 0 22 v0 rfl rfl)
  obtain ⟨ct, rfl, rfl, rfl, wc⟩ := open_int (k := .i64) (by kernel_rfl) (hval 1 3 v1 rfl rfl) h1
  have hct : -9223372036854775808 ≤ ct ∧ ct ≤ 9223372036854775807 := by simpa [Lit.wf, IntKind.min, IntKind.max, IntKind.signed, IntKind.bits] using wc
  have h0' := h0
  obtain ⟨fuel, hf⟩ := h0'
  obtain ⟨s, e, bs, hbs, hall⟩ := open_batches (show DataW.trod enc P W 0 (fun _ => true) true fuel t_sl_api_Batch [.slice a0 len cap] = some (d0, p0) from by simpa [Value.cells] using hf)
  simp only [List.cons.injEq, Value.slice.injEq, and_true] at e
  obtain ⟨rfl, rfl, rfl⟩ := e
  have hlt : ∀ x ∈ p0, x.block < W.heap.size := fun x hx => hW'.lt x (by simp [hx])
  haveI : RdS s k_api_Batch bs [heapA W] := rdS.old hbs
  have hcall := TopTorn_all (R := fun b w => b = true ∧ SH (fixOf W) [heapA W] w) (heapA_start W) (l := s) (bs := bs) (ct := ct)
    (fun b hb => by obtain ⟨rs, g1, g2⟩ := hall b hb; exact ⟨rs, rdS.old g1, g2⟩) ⟨by omega, by omega⟩ (fun w h => ⟨rfl, h⟩)
  have hE : Enters P n_headgatetop_TopTorn := .of Tryz.func3 (c := (Tryz.f3.body).getD .skip) (by kernel_rfl) (by kernel_rfl)
  refine (Calls_of_mcall hE hcall).mono fun e W' he => ?_
  obtain ⟨b, rfl, rfl, hsh⟩ := he
  have hb := heapA_below hsh
  refine ⟨_, rfl, ChangeSpec.post_alike (W'' := { W' with tape := W.tape }) ?_ ⟨rfl, rfl, rfl⟩⟩
  refine ⟨_, _, _, [], p0, [], hW', trodAll_mk1 (shut_bool (by kernel_rfl) _), ?_, rfl, hb.frame _, fun h => by cases h⟩
  have hr : P.readableRec 22 = true := by kernel_rfl
  have hz : 22 < P.types.size := of_decide_eq_true (by kernel_rfl)
  have hi : P.underlying 3 = some (.int .i64) := by kernel_rfl
  have hargs := trodAll_mk2 (hb.trod laidOut hr hz h0 hlt) (shut_int (enc := enc) (w := { W' with tape := W.tape }) (base := 0) (spare := fun b => decide (b < W.heap.size)) (held := true) hi wc)
  rw [Tryz.params3]
  rw [List.append_nil] at hargs
  exact hargs

theorem topTorn_holds : Rows.TopTornSaid :=
  OpenClaim.holds_of_wide 3 Tryz.f3 rfl rfl rfl rfl rfl rfl rfl ⟨rfl, rfl, rfl, rfl, rfl⟩ rfl rfl rfl rfl rfl (by kernel_rfl) Tryz.func3 (by kernel_rfl)
    (of_decide_eq_true (by kernel_rfl)) (by unfold Func.isWrapper; rw [if_neg (of_decide_eq_false (by kernel_rfl))]; exact ⟨rfl, rfl⟩)
    (fun os started H enc _ => lifted os started H enc)

theorem topTorn_card : Rows.TopTornCardSaid :=
  Claim7.holds_tied_plain_at .later [] [.data, .pinned] true (true, "75dec6899453da4092216d6985aefdab14cdc10fa919e1dcd09aa3d660c3ebb7") false
    topTorn_holds (fun _ h => by cases h) (by kernel_rfl) (fun _ h => by cases h) topTorn_row_tie rfl ⟨rfl, rfl⟩ (by kernel_rfl) rfl
    (fun f fn hf hfn => by
      obtain rfl : f = 3 := Option.some.inj ((show Tryz.prog.funcNamed "headgate/headgatetop.TopTorn" = some 3 by kernel_rfl).symm.trans hf) |>.symm
      obtain rfl : fn = Tryz.f3 := (Option.some.inj (Tryz.func3.symm.trans hfn)).symm
      exact ⟨by kernel_rfl, fun j t ht => by
        rw [Tryz.params3] at ht
        have hm : t ∈ [22, 3] := by simpa using Array.mem_of_getElem? ht
        have h22 : Tryz.prog.wantsStandIn 22 = false := by kernel_rfl
        have h3 : Tryz.prog.wantsStandIn 3 = false := by kernel_rfl
        simp only [List.mem_cons, List.not_mem_nil, or_false] at hm
        rcases hm with rfl | rfl
        · exact h22
        · exact h3⟩)
    (by kernel_rfl)
#print axioms topTorn_card
end Go.Proofs.YtegjokkkdkaphaaGreatDoor
