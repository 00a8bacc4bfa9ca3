/- Part of the proof's own library: sound rules for the short texts of functions, for every program. No condition. -/
import Derived.Test.YtpjhflboedicpaaGreatDoorLd
import Derived.Laws.CopyRow
import Derived.Lib.Overlaps
import Derived.Laws.StructEq
import Derived.ChangeKeysEq
import Derived.Maps.RangeRun
set_option linter.unusedVariables false
set_option linter.unusedSimpArgs false
namespace Go.W
open Go
section
variable {P : Program} {o : Fix} {Γ Δ : List Assn} {w : World}
theorem slO_open {s : Sl} {te : TypeId} {k : Kd} {xs : List (KT k)} (h : SH o (slO s te k xs :: Γ) w) (hc : 0 < s.cap) :
    ∃ (b : Nat) (pre post : List Value), s.a = some ⟨b, pre.length, none⟩ ∧ (s.cap - s.len) * wd k ≤ post.length ∧ s.len = xs.length ∧ s.len ≤ s.cap ∧ SH o (objA b (cellsO (pre ++ rows k xs ++ post) te) :: Γ) w := by
  obtain ⟨π, hh, h1, h2, h3, h4, h5, f, r, hd, rfl, ⟨ha1, ha2, ha3⟩, hs⟩ := h
  rcases ha3 with ⟨_, e2, _⟩ | ⟨b, pre, post, e1, e2, rfl⟩
  · omega
  · exact ⟨b, pre, post, e1, e2, ha1, ha2, π, _, h1, h2, h3, h4, h5, _, r, hd, rfl, rfl, hs⟩
theorem slO_close {b c : Nat} {pre post : List Value} {te : TypeId} {k : Kd} {xs : List (KT k)} (h : SH o (objA b (cellsO (pre ++ rows k xs ++ post) te) :: Γ) w) (hc : xs.length ≤ c) (hp : (c - xs.length) * wd k ≤ post.length) :
    SH o (slO ⟨some ⟨b, pre.length, none⟩, xs.length, c⟩ te k xs :: Γ) w :=
  h.conseq (A := objA b (cellsO (pre ++ rows k xs ++ post) te)) (B := slO ⟨some ⟨b, pre.length, none⟩, xs.length, c⟩ te k xs) fun π h hp' => ⟨rfl, hc, .inr ⟨b, pre, post, rfl, hp, hp'⟩⟩
theorem slO_facts {s : Sl} {te : TypeId} {k : Kd} {xs : List (KT k)} (h : SH o (slO s te k xs :: Γ) w) : s.len = xs.length ∧ s.len ≤ s.cap := by
  obtain ⟨π, hh, h1, h2, h3, h4, h5, f, r, hd, rfl, ⟨ha1, ha2, ha3⟩, hs⟩ := h
  exact ⟨ha1, ha2⟩
theorem store_raw {b off : Nat} {V vs : List Value} {te : TypeId} (h : SH o (objA b (cellsO V te) :: Γ) w) (hb : off + vs.length ≤ V.length) (h1 : ∀ v ∈ vs, v.oneCell' = true) :
    ∃ w', (storeCells ⟨b, off, none⟩ vs).run P w = .ok () w' ∧ SH o (objA b (cellsO (V.take off ++ vs ++ V.drop (off + vs.length)) te) :: Γ) w' := by
  have hh := h.heap
  have := run_storeCells_at P b off te vs 0 V.toArray w hh (by simpa using hb) h1
  refine ⟨_, this, ?_⟩
  simp only [Nat.add_zero]
  exact h.put _ (heap_setRow hh _) rfl rfl
theorem firstCells_part {k : Kd} {b off n l c : Nat} {vs V : List Value} {e : TypeId} {fr : Nat × Nat} (hh : w.heap[b]? = some (.cells V.toArray e fr)) (hv : (V.drop off).take (n * wd k) = vs) (hl : vs.length = n * wd k) :
    (Builtin.firstCells (wd k) n (.slice (some ⟨b, off, none⟩) l c)).run P w = .ok vs.toArray w := by
  refine run_firstCells_some (P := P) w (wd k) n ⟨b, off, none⟩ l c vs hl fun j v hj => ?_
  rw [Addr.add_lit]
  unfold World.cell?
  rw [hh]
  simp only [Option.isSome_none, Bool.false_eq_true, if_false]
  have : j < n * wd k := by rw [← hl]; exact (List.getElem?_eq_some_iff.1 hj).1
  rw [← hv, List.getElem?_take, if_pos this, List.getElem?_drop] at hj
  simpa using hj
theorem copy_raw {t tx ti te' : TypeId} {te : TypeId} {k : Kd} {b off dl dc n m : Nat} {V vs : List Value} {v : Value} {K : Int → World → Prop} (h : SH o (objA b (cellsO V te) :: Γ) w) [ht : TySl P t te'] [hk : TyK P te' k]
    (hn : n = min m dl) (hlen : ∀ w, (Builtin.lenOf v).run P w = .ok m w) (hcells : (Builtin.firstCells (wd k) n v).run P w = .ok vs.toArray w) (hb : off + vs.length ≤ V.length) (h1 : ∀ v ∈ vs, v.oneCell' = true)
    (hK : ∀ w', SH o (objA b (cellsO (V.take off ++ vs ++ V.drop (off + vs.length)) te) :: Γ) w' → K (n : Int) w') :
    mop P (Builtin.copy_ #[t, tx] ti #[.slice (some ⟨b, off, none⟩) dl dc, v]) I K w := by
  obtain ⟨d, inf, hu, hi', hr, hs, _⟩ := hk.spec
  have hsz : (sizeOf te').run P w = .ok (wd k) w := by simp [sizeOf, typeInfo, hi', hs]
  obtain ⟨w', e1, e2⟩ := store_raw (P := P) h hb h1
  have hmin : Nat.min m dl = n := hn.symm
  refine ⟨(n : Int), w', ?_, hK w' e2⟩
  simp [Builtin.copy_, run_underlying ht.ok, hlen, hmin, hsz, hcells, e1, goInt, KV]
theorem zero_cells {te : TypeId} {k : Kd} {z : KT k} [hk : TyK P te k] [hz : TyZ P te k z] (hp : plainK k = true) : ∃ u : Value, (∀ w, (zeroValue te).run P w = .ok u w) ∧ u.cells.toList = KC k z := by
  obtain ⟨d, inf, hu, hi, hr, hs, hnt⟩ := hk.spec
  have h1 := hz.ok
  rw [hi] at h1
  simp only [Option.bind_some] at h1
  refine ⟨KV k z, fun w => by simp [zeroValue, typeInfo, program, hi, h1, Sem.run], cells_KV hnt (okV_plain hp z)⟩
theorem zeroCells_len {u : Value} {n : Nat} : (Builtin.zeroCells u.cells n).toList.length = n * u.cells.toList.length := by simp [Builtin.zeroCells]
theorem zeroCells_one {u : Value} {n : Nat} (h : ∀ c ∈ u.cells.toList, c.oneCell' = true) : ∀ v ∈ (Builtin.zeroCells u.cells n).toList, v.oneCell' = true := by
  intro v hv
  simp only [Builtin.zeroCells, Array.toList_map, List.mem_map] at hv
  obtain ⟨i, hi, rfl⟩ := hv
  have hsz : 0 < u.cells.size := by
    rcases Nat.eq_zero_or_pos u.cells.size with h0 | h0
    · simp [h0] at hi
    · exact h0
  have hlt : i % u.cells.size < u.cells.size := Nat.mod_lt _ hsz
  rw [getElem!_pos u.cells _ hlt]
  exact h _ (by simp)
theorem clear_raw {t ti te te' : TypeId} {k : Kd} {z : KT k} {b off n c : Nat} {V : List Value} {K : Value → World → Prop} (hp : plainK k = true) (h : SH o (objA b (cellsO V te) :: Γ) w) [ht : TySl P t te'] [hk : TyK P te' k] [hz : TyZ P te' k z] (hb : off + n * wd k ≤ V.length)
    (hK : ∀ w' Z, Z.length = n * wd k → SH o (objA b (cellsO (V.take off ++ Z ++ V.drop (off + n * wd k)) te) :: Γ) w' → K (.tuple #[]) w') :
    mop P (Builtin.clear_ #[t] ti #[.slice (some ⟨b, off, none⟩) n c]) .v K w := by
  obtain ⟨u, hu, hc⟩ := zero_cells (P := P) (te := te') (k := k) (z := z) hp
  have hl : (Builtin.zeroCells u.cells n).toList.length = n * wd k := by rw [zeroCells_len, hc, KC_len]
  by_cases hn : n = 0
  · subst hn
    refine ⟨.tuple #[], w, by simp [Builtin.clear_, run_underlying ht.ok, KV], hK w [] (by simp) ?_⟩
    simpa using h
  · obtain ⟨w', e1, e2⟩ := store_raw (P := P) (vs := (Builtin.zeroCells u.cells n).toList) h (by rw [hl]; exact hb) (zeroCells_one fun c hcc => okV_plain hp z c (by rw [← hc]; exact hcc))
    refine ⟨.tuple #[], w', ?_, hK w' _ hl (by rw [hl] at e2; exact e2)⟩
    obtain ⟨m, rfl⟩ : ∃ m, n = m + 1 := ⟨n - 1, by omega⟩
    simp [Builtin.clear_, run_underlying ht.ok, hu, e1, KV]
theorem clear_tail {t ti te te' : TypeId} {s : Sl} {k : Kd} {z : KT k} {xs : List (KT k)} {i : Nat} {K : Value → World → Prop} (hp : plainK k = true) (h : SH o (slO s te k xs :: Γ) w) [ht : TySl P t te'] [hk : TyK P te' k] [hz : TyZ P te' k z] (hi : i ≤ s.len)
    (hK : ∀ w', SH o (slO ⟨s.a, i, s.cap⟩ te k (xs.take i) :: Γ) w' → K (.tuple #[]) w') :
    mop P (Builtin.clear_ #[t] ti #[.slice (cut s k i s.len).a (cut s k i s.len).len (cut s k i s.len).cap]) .v K w := by
  obtain ⟨f1, f2⟩ := slO_facts h
  obtain ⟨sa, sl, sc⟩ := s
  simp only at f1 f2 hi
  subst f1
  by_cases h0 : xs.length - i = 0
  · have hi' : i = xs.length := by omega
    subst hi'
    refine ⟨.tuple #[], w, ?_, hK w ?_⟩
    · simp only [cut, Nat.sub_self]
      cases hc : (if sc = xs.length then sa else sa.map fun x => x.add (xs.length * wd k)) <;> simp [Builtin.clear_, run_underlying ht.ok, hc, KV]
    · rw [List.take_length]; exact h
  · obtain ⟨b, pre, post, e1, e2, _, _, h3⟩ := slO_open h (by show 0 < sc; omega)
    simp only at e1 e2
    subst e1
    have hne : ¬ sc = i := by omega
    simp only [cut, if_neg hne, Option.map_some, Addr.add_lit]
    have hr := rows_len k xs
    have hl : (pre ++ rows k xs ++ post).length = pre.length + xs.length * wd k + post.length := by simp [hr]; omega
    have hm : i * wd k + (xs.length - i) * wd k = xs.length * wd k := by rw [← Nat.add_mul]; congr 1; omega
    refine clear_raw (z := z) hp h3 (by rw [hl]; omega) fun w Z hZ h => ?_
    refine hK w ?_
    have h1 : (rows k (xs.take i)).length = i * wd k := by rw [rows_len, List.length_take, Nat.min_eq_left (by omega)]
    have hsplit : rows k xs = rows k (xs.take i) ++ rows k (xs.drop i) := by rw [← rows_append, List.take_append_drop]
    have g1 : (pre ++ rows k xs ++ post).take (pre.length + i * wd k) = pre ++ rows k (xs.take i) := by
      rw [hsplit, List.append_assoc, List.append_assoc, ← List.append_assoc]
      exact List.take_left' (by simp [h1])
    have g2 : (pre ++ rows k xs ++ post).drop (pre.length + i * wd k + (xs.length - i) * wd k) = post := by
      exact List.drop_left' (by simp [hr]; omega)
    rw [g1, g2, List.append_assoc] at h
    have := slO_close (k := k) (xs := xs.take i) (c := sc) h (by simp; omega) (by
      have hq : (sc - i) * wd k = (sc - xs.length) * wd k + (xs.length - i) * wd k := by rw [← Nat.add_mul]; congr 1; omega
      simp only [List.length_take, Nat.min_eq_left (show i ≤ xs.length by omega), List.length_append, hZ]; omega)
    simpa [Nat.min_eq_left (show i ≤ xs.length by omega)] using this
theorem rows_set {k : Kd} {xs ys : List (KT k)} {i : Nat} (hi : i + ys.length ≤ xs.length) {pre post : List Value} :
    (pre ++ rows k xs ++ post).take (pre.length + i * wd k) ++ rows k ys ++ (pre ++ rows k xs ++ post).drop (pre.length + i * wd k + (rows k ys).length) = pre ++ rows k (xs.take i ++ ys ++ xs.drop (i + ys.length)) ++ post := by
  have h1 : (rows k (xs.take i)).length = i * wd k := by rw [rows_len, List.length_take, Nat.min_eq_left (by omega)]
  have hsplit : rows k xs = rows k (xs.take i) ++ rows k (xs.drop i) := by rw [← rows_append, List.take_append_drop]
  have hsplit2 : rows k xs = rows k (xs.take (i + ys.length)) ++ rows k (xs.drop (i + ys.length)) := by rw [← rows_append, List.take_append_drop]
  have h2 : (rows k (xs.take (i + ys.length))).length = i * wd k + ys.length * wd k := by rw [rows_len, List.length_take, Nat.min_eq_left hi, Nat.add_mul]
  have g1 : (pre ++ rows k xs ++ post).take (pre.length + i * wd k) = pre ++ rows k (xs.take i) := by
    rw [hsplit, List.append_assoc, List.append_assoc, ← List.append_assoc]
    exact List.take_left' (by simp [h1])
  have g2 : (pre ++ rows k xs ++ post).drop (pre.length + i * wd k + (rows k ys).length) = rows k (xs.drop (i + ys.length)) ++ post := by
    rw [hsplit2, List.append_assoc, List.append_assoc, ← List.append_assoc]
    exact List.drop_left' (by simp [h2, rows_len]; omega)
  rw [g1, g2, rows_append, rows_append]
  simp
theorem copy_own {t tx ti te te' : TypeId} {s u : Sl} {k : Kd} {xs ys : List (KT k)} {i : Nat} {K : Int → World → Prop} (h : SH o (slO s te k xs :: Γ) w) [hy : RdS u k ys (slO s te k xs :: Γ)] [ht : TySl P t te'] [hk : TyK P te' k] (hok : ∀ y ∈ ys, okV k y) (hi : i + ys.length ≤ s.len)
    (hK : ∀ w', SH o (slO s te k (xs.take i ++ ys ++ xs.drop (i + ys.length)) :: Γ) w' → K (ys.length : Int) w') :
    mop P (Builtin.copy_ #[t, tx] ti #[.slice (cut s k i s.len).a (cut s k i s.len).len (cut s k i s.len).cap, .slice u.a u.len u.cap]) I K w := by
  obtain ⟨f1, f2⟩ := slO_facts h
  have hs := src_sl (P := P) (tx := t) (u := u) h ht.ok hok
  obtain ⟨sa, sl, sc⟩ := s
  simp only at f1 f2 hi
  subst f1
  by_cases h0 : xs.length = i
  · have hys : ys = [] := List.length_eq_zero_iff.1 (by omega)
    subst hys
    obtain ⟨d, inf, hu, hi', hr, hsz', _⟩ := hk.spec
    have hsz : (sizeOf te').run P w = .ok (wd k) w := by simp [sizeOf, typeInfo, hi', hsz']
    have h := hK w (by simpa using h)
    refine ⟨0, w, ?_, h⟩
    have hul : (Builtin.lenOf (.slice u.a u.len u.cap)).run P w = .ok 0 w := hs.len w
    have hfc : (Builtin.firstCells (wd k) 0 (.slice u.a u.len u.cap)).run P w = .ok #[] w := by simpa [rows] using hs.cells
    simp only [cut, h0, Nat.sub_self]
    cases hc : (if sc = i then sa else sa.map fun x => x.add (i * wd k)) with
    | none => simp [Builtin.copy_, run_underlying ht.ok, hul, hsz, hfc, hc, goInt, KV]
    | some a => simp [Builtin.copy_, run_underlying ht.ok, hul, hsz, hfc, hc, storeCells, goInt, KV]
  · obtain ⟨b, pre, post, e1, e2, _, _, h3⟩ := slO_open h (by show 0 < sc; omega)
    simp only at e1 e2
    subst e1
    have hne : ¬ sc = i := by omega
    have hr := rows_len k xs
    have hry := rows_len k ys
    have hm : i * wd k + ys.length * wd k ≤ xs.length * wd k := by rw [← Nat.add_mul]; exact Nat.mul_le_mul_right _ hi
    simp only [cut, if_neg hne, Option.map_some, Addr.add_lit]
    refine copy_raw (k := k) (m := ys.length) (vs := rows k ys) h3 (by omega) hs.len hs.cells (by simp [hr, hry]; omega) hs.one fun w h => ?_
    refine hK w ?_
    rw [rows_set hi] at h
    have hl : (xs.take i ++ ys ++ xs.drop (i + ys.length)).length = xs.length := by simp; omega
    have := slO_close (k := k) (c := sc) h (by rw [hl]; omega) (by rw [hl]; exact e2)
    rw [hl] at this
    exact this
theorem app_own {t tx ty te te' : TypeId} {s u : Sl} {k : Kd} {xs ys : List (KT k)} {i : Nat} {K : Sl → World → Prop} (h : SH o (slO s te k xs :: Γ) w) [hy : RdS u k ys (slO s te k xs :: Γ)] [ht : TySl P t te'] [htx : TySl P tx te'] [hk : TyK P te' k] (hok : ∀ y ∈ ys, okV k y) (hi : i + ys.length ≤ s.len)
    (hK : ∀ w', SH o (slO s te k (xs.take i ++ ys ++ xs.drop (i + ys.length)) :: Γ) w' → K ⟨s.a, i + ys.length, s.cap⟩ w') :
    app P #[t, tx] ty (Sl.v ⟨s.a, i, s.cap⟩) (Sl.v u) K w := by
  obtain ⟨f1, f2⟩ := slO_facts h
  have hs := src_sl (P := P) (tx := tx) (u := u) h htx.ok hok
  obtain ⟨d, inf, hu, hi', hrw, hsz, _⟩ := hk.spec
  rw [← hsz] at hs
  obtain ⟨sa, sl, sc⟩ := s
  simp only at f1 f2 hi
  subst f1
  rcases Nat.eq_zero_or_pos sc with h0 | h0
  · have hys : ys = [] := List.length_eq_zero_iff.1 (by omega)
    have hi0 : i = 0 := by omega
    subst hys; subst hi0
    refine ⟨⟨sa, 0, sc⟩, w, ?_, hK w (by simpa using h)⟩
    exact run_append_nothing (P := P) w t tx ty te' inf ht.ok hi' sa 0 sc (by omega) (Sl.v u) hs
  · obtain ⟨b, pre, post, e1, e2, _, _, h3⟩ := slO_open h h0
    simp only at e1 e2
    subst e1
    have hb' := h3.heap
    have hr := rows_len k xs
    have hry := rows_len k ys
    have hm : i * wd k + ys.length * wd k ≤ xs.length * wd k := by rw [← Nat.add_mul]; exact Nat.mul_le_mul_right _ hi
    have hbd : pre.length + i * inf.size + (rows k ys).length ≤ (pre ++ rows k xs ++ post).length := by simp [hr, hry, hsz]; omega
    have hst : w.setCells b (pre.length + i * inf.size) (rows k ys) = w.setRow b ((pre ++ rows k xs ++ post).take (pre.length + i * wd k) ++ rows k ys ++ (pre ++ rows k xs ++ post).drop (pre.length + i * wd k + (rows k ys).length)).toArray := by
      have h1 := run_storeCells_at P b (pre.length + i * inf.size) te (rows k ys) 0 (pre ++ rows k xs ++ post).toArray w hb' (by simpa using hbd) hs.one
      have h2 := run_storeCells_cells (P := P) b (pre.length + i * inf.size) (rows k ys) 0 w (fun j hj => by
        rw [cell_of_row w b _ _ te (0, 0) hb']; simp at hj hbd ⊢; omega) (fun j hj => by simp [World.frozen?, hb']) hs.one
      rw [h1] at h2
      simp only [Nat.add_zero, Result.ok.injEq, true_and] at h2
      rw [← h2, hsz]
    refine ⟨⟨some ⟨b, pre.length, none⟩, i + ys.length, sc⟩, _, run_append_room_src (P := P) w t tx ty te' inf ht.ok hi' b pre.length i sc (Sl.v u) ys.length (rows k ys) hs (by omega) (fun j hj => by
        rw [cell_of_row w b _ _ te (0, 0) hb']; simp at hj hbd ⊢; omega) (fun j hj => by simp [World.frozen?, hb']), hK _ ?_⟩
    rw [hst, rows_set hi]
    have hl : (xs.take i ++ ys ++ xs.drop (i + ys.length)).length = xs.length := by simp; omega
    have := h3.put _ (heap_setRow hb' (pre ++ rows k (xs.take i ++ ys ++ xs.drop (i + ys.length)) ++ post)) rfl rfl
    have := slO_close (k := k) (c := sc) this (by rw [hl]; omega) (by rw [hl]; exact e2)
    rw [hl] at this
    exact this
theorem zeroCells_rows {k : Kd} {z : KT k} {u : Value} (hu : u.cells.toList = KC k z) : ∀ m, (Builtin.zeroCells u.cells m).toList = rows k (List.replicate m z)
  | 0 => by simp [Builtin.zeroCells, rows]
  | m + 1 => by
    have ih := zeroCells_rows hu m
    rw [List.replicate_succ', rows_append, ← ih]
    have hsz : u.cells.size = (KC k z).length := by rw [← hu]; simp
    have h1 : rows k [z] = KC k z := by simp [rows]
    rw [h1]
    simp only [Builtin.zeroCells, Array.toList_map, Array.toList_range]
    rw [Nat.add_mul, Nat.one_mul, List.range_add, List.map_append, List.map_map]
    congr 1
    rw [← hu]
    apply List.ext_getElem?
    intro j
    rw [List.getElem?_map]
    rcases Nat.lt_or_ge j u.cells.size with hj | hj
    · rw [List.getElem?_range hj]
      simp only [Option.map_some, Function.comp_apply]
      have : (m * u.cells.size + j) % u.cells.size = j := by rw [Nat.add_comm, Nat.add_mul_mod_self_right, Nat.mod_eq_of_lt hj]
      rw [this, getElem!_pos u.cells j hj]
      simp [hj]
    · rw [List.getElem?_eq_none (by simpa using hj), List.getElem?_eq_none (by simpa using hj)]; rfl
theorem app_make {t tI ty te : TypeId} {s : Sl} {k : Kd} {z : KT k} {xs : List (KT k)} {m : Nat} {K : Sl → World → Prop} (hp : plainK k = true) (h : SH o Γ w) [hr : RdS s k xs Γ] [ht : TySl P t te] [hk : TyK P te k] [hE : TyE P te k] [hz : TyZ P te k z] (hti : P.underlying tI = some (.int .i64))
    (hm : 0 < m) (hcap : s.cap < s.len + m) (hb : s.len + m ≤ 274877906944) (hK : ∀ r w', SH o (slO r te k (xs ++ List.replicate m z) :: Γ) w' → K r w') : app P #[t, tI] ty (Sl.v s) (.int .i64 (m : Int)) K w := by
  obtain ⟨i, u, hi, hu, hzs, hby⟩ := hE.spec
  obtain ⟨d, i', hu', hi', hrw, hsz, hnt⟩ := hk.spec
  rw [hi] at hi'; cases hi'
  have hz1 := hz.ok
  rw [hi] at hz1
  simp only [Option.bind_some, hu, Option.some.injEq] at hz1
  have hc : u.cells.toList = KC k z := by rw [hz1]; exact cells_KV hnt (okV_plain hp z)
  obtain ⟨g1, g2, g3⟩ := h.rd (s := s)
  obtain ⟨sa, sl, sc⟩ := s
  simp only at g1 g2 g3 hcap hb
  subst g1
  have hfit := growslice_fits (need := xs.length + m) (old := sc) (bytes := i.bytes) hcap (by
    have := Nat.mul_le_mul hb hby
    omega)
  have hmb : m * i.bytes ≤ 281474976710656 := by
    have := Nat.mul_le_mul (show m ≤ 274877906944 by omega) hby
    omega
  have hold : (Builtin.firstCells i.size xs.length (.slice sa xs.length sc)).run P w.drew = .ok (rows k xs).toArray w.drew := by
    rcases g3 with g3 | ⟨b, pre, post, e, fr, e1, e2⟩
    · have : xs = [] := List.length_eq_zero_iff.1 g3
      subst this
      cases sa <;> simp [Builtin.firstCells, rows, loadCells, loadCellsFrom]
    · subst e1
      exact run_firstCells_some (P := P) w.drew i.size xs.length ⟨b, pre.length, none⟩ xs.length sc (rows k xs) (by rw [rows_len, hsz]) (fun j v hj => by rw [Addr.add_mid]; exact rangeAt_cells (w := w.drew) e2 rfl j v hj)
  have hwr : IntKind.i64.wrap (m : Int) = m := w64_of (by omega) (by omega)
  have n1 : ¬ ((m : Int) < 0) := by omega
  have n2 : ¬ ((m : Int) * (i.bytes : Int) > 2 ^ 48) := by
    have : ((m * i.bytes : Nat) : Int) ≤ 281474976710656 := Int.ofNat_le.2 hmb
    rw [Int.natCast_mul] at this
    omega
  have n3 : ¬ (xs.length + m ≤ sc) := by omega
  have n4 : ¬ (((xs.length + m : Nat) : Int) > IntKind.i64.max) := by
    have : IntKind.i64.max = 9223372036854775807 := by decide
    omega
  have n5 : ¬ (Builtin.nextslicecap (xs.length + m) sc * i.bytes > 2 ^ 48) := by omega
  have n6 : ¬ (281474976710656 < (m : Int) * (i.bytes : Int)) := by
    have : ((m * i.bytes : Nat) : Int) ≤ 281474976710656 := Int.ofNat_le.2 hmb
    rw [Int.natCast_mul] at this
    omega
  have n7 : ¬ (9223372036854775807 < (xs.length : Int) + (m : Int)) := by omega
  have n8 : ¬ (281474976710656 < Builtin.nextslicecap (xs.length + m) sc * i.bytes) := by omega
  refine ⟨⟨some ⟨w.heap.size, 0, none⟩, xs.length + m, grownCap w (xs.length + m) sc te⟩, w.drew.alloc (.cells ((rows k xs ++ rows k (List.replicate m z)).toArray ++ Builtin.zeroCells u.cells (grownCap w (xs.length + m) sc te - (xs.length + m))) te), ?_, hK _ _ ?_⟩
  · have hzc : (Builtin.zeroCells u.cells m) = (rows k (List.replicate m z)).toArray := by rw [← zeroCells_rows hc]
    have hsz0 : m * i.size = 0 → rows k (List.replicate m z) = [] := fun h0 => by
      apply List.length_eq_zero_iff.1; rw [rows_len, List.length_replicate, ← hsz]; exact h0
    by_cases h0 : m * i.size = 0
    · have hnil := hsz0 h0
      simp [Builtin.append_, run_underlying ht.ok, run_underlying hti, asInt, asIntOf, sizeOf, typeInfo, zeroValue, hi, hu, hwr, n1, n3, n6, n7, n8, h0, hnil, Question.forced, hold, newRow, grownCap, KV, Sl.v]
    · simp [Builtin.append_, run_underlying ht.ok, run_underlying hti, asInt, asIntOf, sizeOf, typeInfo, zeroValue, hi, hu, hwr, n1, n3, n6, n7, n8, h0, hzc, Question.forced, hold, newRow, grownCap, KV, Sl.v]
      congr 2
      apply Array.ext'
      simp [List.append_assoc]
  · have := h.row (t := te) (k := k) (w' := w.drew.alloc (.cells ((rows k xs ++ rows k (List.replicate m z)).toArray ++ Builtin.zeroCells u.cells (grownCap w (xs.length + m) sc te - (xs.length + m))) te))
      (xs := xs ++ List.replicate m z) (post := (Builtin.zeroCells u.cells (grownCap w (xs.length + m) sc te - (xs.length + m))).toList) (c := grownCap w (xs.length + m) sc te)
      (by show w.heap.push _ = _; congr 2; apply Array.ext'; simp [rows_append]) rfl rfl (by simp only [List.length_append, List.length_replicate]; exact grownCap_ge ..) (by simp [Builtin.zeroCells, hzs])
    simpa using this
end
end Go.W
namespace Go.W
open Go
noncomputable def eqB {α : Type} (x y : α) : Bool := @decide (x = y) (Classical.propDecidable _)
theorem eqB_iff {α : Type} {x y : α} : eqB x y = true ↔ x = y := by unfold eqB; simp
theorem eqB_pair {α β : Type} {x : α} {y z : β} : eqB (x, y) (x, z) = eqB y z := by rw [Bool.eq_iff_iff, eqB_iff, eqB_iff]; simp
theorem eqB_ne {α : Type} {x y : α} (h : x ≠ y) : eqB x y = false := by rw [Bool.eq_false_iff, ne_eq, eqB_iff]; exact h
theorem eqB_self {α : Type} (x : α) : eqB x x = true := eqB_iff.2 rfl
def eqFs (g : TypeId → Kd → Bool) : List Field → List Kd → Nat → Bool
  | [], [], _ => true
  | f :: fs, k :: ks, off => (f.name != "_") && Nat.beq f.offset off && g f.type k && eqFs g fs ks (off + wd k)
  | _, _, _ => false
def eqOk (P : Program) : Nat → TypeId → Kd → Bool
  | 0, _, _ => false
  | f + 1, t, k => tyOk P t k && match P.underlying t, k with
    | some (.int q), .i q' => decide (q = q')
    | some .bool, .b => true
    | some .string, .s => true
    | some (.struct fs), .st l => !P.stoodInHeld t && eqFs (eqOk P f) fs.toList l 0
    | some (.array n e), .st l => !l.isEmpty && Nat.beq l.length n && l.all fun k => eqOk P f e k
    | _, _ => false
class TyEq (P : Program) (t : TypeId) (k : outParam Kd) : Prop where
  ok : eqOk P 9 t k = true
section
variable {P : Program}
theorem part_run {t : TypeId} {k : Kd} (hk : TyK P t k) (x : KT k) (pre post : List Value) (w : World) : (part t (pre ++ KC k x ++ post).toArray pre.length).run P w = .ok (KV k x) w := by
  obtain ⟨d, i, hu, hi, hr, hs, ht⟩ := hk.spec
  cases hst : k.isSt with
  | true =>
    rw [hst] at hr
    have hag : (isAgg t).run P w = .ok true w := by
      cases d <;> simp [TypeDesc.isRow] at hr <;> simp [isAgg, run_underlying hu]
    rw [KV_st hst]
    simp only [part, Sem.run_bind, hag, Result.andThen_ok, if_true, sizeOf, typeInfo, program, Sem.run_pure]
    simp [Sem.run, hi, hs]
    exact List.take_left' (KC_len k x)
  | false =>
    rw [hst] at hr
    have hag : (isAgg t).run P w = .ok false w := by
      cases d <;> simp [TypeDesc.isRow] at hr <;> simp [isAgg, run_underlying hu]
    rw [KC_one hst ht]
    simp only [part, Sem.run_bind, hag, Result.andThen_ok]
    simp
theorem eqFs_run {g : TypeId → Kd → Bool} {d : Nat} (hg : ∀ t k, g t k = true → TyK P t k ∧ ∀ (x y : KT k) w, (Op.equalIn d t (KV k x) (KV k y)).run P w = .ok (eqB x y) w) (w : World) :
    ∀ (fs : List Field) (ks : List Kd) (off : Nat), eqFs g fs ks off = true → ∀ (pre pre' : List Value) (x y : KTs ks), pre.length = off → pre'.length = off →
      (Op.eqFields d (pre ++ KCs ks x).toArray (pre' ++ KCs ks y).toArray fs).run P w = .ok (eqB x y) w
  | [], [], _, _, _, _, x, y, _, _ => by rw [show eqB x y = true from eqB_iff.2 rfl]; simp [Op.eqFields]
  | f :: fs, k :: ks, off, h, pre, pre', x, y, h1, h2 => by
    simp only [eqFs, Bool.and_eq_true, bne_iff_ne, Nat.beq_eq] at h
    obtain ⟨⟨⟨n1, n2⟩, n3⟩, n4⟩ := h
    obtain ⟨hk, he⟩ := hg _ _ n3
    obtain ⟨x1, x2⟩ := x
    obtain ⟨y1, y2⟩ := y
    have p1 := part_run hk x1 pre (KCs ks x2) w
    have p2 := part_run hk y1 pre' (KCs ks y2) w
    rw [h1, ← n2] at p1
    rw [h2, ← n2] at p2
    rw [List.append_assoc] at p1 p2
    simp only [KCs, Op.eqFields, ne_eq, n1, not_false_eq_true, if_true, Sem.run_bind, p1, p2, he, Result.andThen_ok]
    by_cases e : x1 = y1
    · subst e
      have ih := eqFs_run hg w fs ks (off + wd k) n4 (pre ++ KC k x1) (pre' ++ KC k x1) x2 y2 (by simp [KC_len, h1]) (by simp [KC_len, h2])
      rw [List.append_assoc, List.append_assoc] at ih
      simp only [eqB_self, Bool.not_true, Bool.false_eq_true, if_false, ih, eqB_pair]
    · simp [eqB_ne e, eqB_ne (show (x1, x2) ≠ (y1, y2) from fun h => e (Prod.mk.inj h).1)]
  | [], _ :: _, _, h, _, _, _, _, _, _ => by simp [eqFs] at h
  | _ :: _, [], _, h, _, _, _, _, _, _ => by simp [eqFs] at h
theorem eqEs_run {d : Nat} {e : TypeId} {c : Nat} (hg : ∀ k, (∀ (x y : KT k) w, (Op.equalIn d e (KV k x) (KV k y)).run P w = .ok (eqB x y) w) ∧ TyK P e k ∧ wd k = c ∨ True) (w : World) :
    ∀ (ks : List Kd), (∀ k ∈ ks, (∀ (x y : KT k) w, (Op.equalIn d e (KV k x) (KV k y)).run P w = .ok (eqB x y) w) ∧ TyK P e k ∧ wd k = c) → ∀ (pre pre' : List Value) (i : Nat) (x y : KTs ks), pre.length = i * c → pre'.length = i * c →
      (Op.eqItems d e c (pre ++ KCs ks x).toArray (pre' ++ KCs ks y).toArray (List.range' i ks.length)).run P w = .ok (eqB x y) w
  | [], _, _, _, _, x, y, _, _ => by rw [show eqB x y = true from eqB_iff.2 rfl]; simp [Op.eqItems]
  | k :: ks, h, pre, pre', i, x, y, h1, h2 => by
    obtain ⟨he, hk, hc⟩ := h k (List.mem_cons_self ..)
    obtain ⟨x1, x2⟩ := x
    obtain ⟨y1, y2⟩ := y
    have p1 := part_run hk x1 pre (KCs ks x2) w
    have p2 := part_run hk y1 pre' (KCs ks y2) w
    rw [h1] at p1
    rw [h2] at p2
    rw [List.append_assoc] at p1 p2
    simp only [KCs, List.length_cons, List.range'_succ, Op.eqItems, Sem.run_bind, p1, p2, he, Result.andThen_ok]
    by_cases e : x1 = y1
    · subst e
      have ih := eqEs_run hg w ks (fun k hk => h k (List.mem_cons_of_mem _ hk)) (pre ++ KC k x1) (pre' ++ KC k x1) (i + 1) x2 y2 (by simp [KC_len, h1, hc, Nat.add_mul]) (by simp [KC_len, h2, hc, Nat.add_mul])
      rw [List.append_assoc, List.append_assoc] at ih
      simp only [eqB_self, Bool.not_true, Bool.false_eq_true, if_false, ih, eqB_pair]
    · simp [eqB_ne e, eqB_ne (show (x1, x2) ≠ (y1, y2) from fun h => e (Prod.mk.inj h).1)]
theorem eqOk_run : ∀ (f : Nat) (t : TypeId) (k : Kd), eqOk P f t k = true → TyK P t k ∧ ∀ d, f ≤ d → ∀ (x y : KT k) w, (Op.equalIn d t (KV k x) (KV k y)).run P w = .ok (eqB x y) w
  | 0, _, _, h => by simp [eqOk] at h
  | f + 1, t, k, h => by
    unfold eqOk at h
    rw [Bool.and_eq_true] at h
    obtain ⟨h1, h2⟩ := h
    refine ⟨⟨h1⟩, fun d hd x y w => ?_⟩
    obtain ⟨d, rfl⟩ : ∃ d', d = d' + 1 := ⟨d - 1, by omega⟩
    split at h2
    · rename_i q q' hu
      have h2 : q = q' := of_decide_eq_true h2
      subst h2
      have := run_equalIn_int (P := P) w d t q q x y hu
      show (Op.equalIn (d + 1) t (.int q x) (.int q y)).run P w = _
      rw [this]; congr 1
      rw [Bool.eq_iff_iff, eqB_iff]; simp
    · rename_i hu
      have := run_equalIn_bool' (P := P) w d t x y hu
      show (Op.equalIn (d + 1) t (.bool x) (.bool y)).run P w = _
      rw [this]; congr 1
      rw [Bool.eq_iff_iff, eqB_iff]; simp
    · rename_i hu
      show (Op.equalIn (d + 1) t (.string ⟨x.toArray⟩) (.string ⟨y.toArray⟩)).run P w = _
      rw [Op.equalIn]
      have e : (x = y) ↔ eqB x y = true := eqB_iff.symm
      simp only [Sem.run_bind, run_underlying hu, Result.andThen_ok, Sem.run_pure, bytes_beq]
      congr 1
      rw [Bool.eq_iff_iff, decide_eq_true_iff, e]
    · rename_i fs l hu
      rw [Bool.and_eq_true, Bool.not_eq_true'] at h2
      have hf : P.fieldsOf t = fs := by unfold Program.fieldsOf; rw [hu]
      show (Op.equalIn (d + 1) t (.agg (KCs l x).toArray) (.agg (KCs l y).toArray)).run P w = _
      rw [run_equalIn_agg w d t _ _ (by rw [hf]; exact hu) h2.1, hf]
      exact eqFs_run (fun t k hg => ⟨(eqOk_run f t k hg).1, fun x y w => (eqOk_run f t k hg).2 d (by omega) x y w⟩) w fs.toList l 0 h2.2 [] [] x y rfl rfl
    · rename_i n e l hu
      rw [Bool.and_eq_true, Bool.and_eq_true, Nat.beq_eq, List.all_eq_true] at h2
      obtain ⟨⟨hne, hl⟩, hall⟩ := h2
      show (Op.equalIn (d + 1) t (.agg (KCs l x).toArray) (.agg (KCs l y).toArray)).run P w = _
      cases l with
      | nil => cases hne
      | cons k0 l' =>
        obtain ⟨_, i, hu', hi, _, hs, _⟩ := (eqOk_run f e k0 (hall k0 (List.mem_cons_self ..))).1.spec
        have hc : P.cellsOf e = wd k0 := by simp [Program.cellsOf, hi, hs]
        rw [run_equalIn_array w d _ _ hu hi, ← hl, List.range_eq_range']
        refine eqEs_run (c := P.cellsOf e) (fun _ => .inr trivial) w (k0 :: l') (fun k hk => ?_) [] [] 0 x y (by simp) (by simp)
        have hk' := eqOk_run f e k (hall k hk)
        obtain ⟨_, i', _, hi', _, hs', _⟩ := hk'.1.spec
        rw [hi] at hi'; cases hi'
        exact ⟨fun x y w => hk'.2 d (by omega) x y w, hk'.1, by rw [hc]; omega⟩
    · cases h2
theorem mne_kd {w : World} {t : TypeId} {k : Kd} [h : TyEq P t k] (hs : k.isSt = true) {x y : KT k} {K : Bool → World → Prop} (hK : K (!eqB x y) w) : meq P .neq t (KV k x) (KV k y) K w := by
  have hr := (eqOk_run 9 t k h.ok).2 10000 (by omega) x y w
  rw [KV_st hs, KV_st hs] at hr ⊢
  exact ⟨_, by rw [run_neq_struct, hr]; rfl, hK⟩
theorem eqFs_mem {g : TypeId → Kd → Bool} {Q : Value → Prop} (hg : ∀ t k, g t k = true → ∀ (x : KT k), ∀ c ∈ KC k x, Q c) : ∀ (fs : List Field) (ks : List Kd) (off : Nat), eqFs g fs ks off = true → ∀ (x : KTs ks), ∀ c ∈ KCs ks x, Q c
  | [], [], _, _, _, _, hc => by simp [KCs] at hc
  | f :: fs, k :: ks, off, h, x, c, hc => by
    simp only [eqFs, Bool.and_eq_true] at h
    rw [KCs, List.mem_append] at hc
    rcases hc with hc | hc
    · exact hg _ _ h.1.2 _ c hc
    · exact eqFs_mem hg fs ks _ h.2 _ c hc
  | [], _ :: _, _, h, _, _, _ => by simp [eqFs] at h
  | _ :: _, [], _, h, _, _, _ => by simp [eqFs] at h
theorem eqEs_mem {Q : Value → Prop} : ∀ (ks : List Kd), (∀ k ∈ ks, ∀ (x : KT k), ∀ c ∈ KC k x, Q c) → ∀ (x : KTs ks), ∀ c ∈ KCs ks x, Q c
  | [], _, _, _, hc => by simp [KCs] at hc
  | k :: ks, h, x, c, hc => by
    rw [KCs, List.mem_append] at hc
    rcases hc with hc | hc
    · exact h k (List.mem_cons_self ..) _ c hc
    · exact eqEs_mem ks (fun k hk => h k (List.mem_cons_of_mem _ hk)) _ c hc
theorem eqOk_bits (n : Nat) : ∀ (f : Nat) (t : TypeId) (k : Kd), eqOk P f t k = true → ∀ (x : KT k), ∀ c ∈ KC k x, Instr.sameBits n c c = true
  | 0, _, _, h => by simp [eqOk] at h
  | f + 1, t, k, h => by
    unfold eqOk at h
    rw [Bool.and_eq_true] at h
    obtain ⟨h1, h2⟩ := h
    intro x c hc
    split at h2
    · simp only [KC, List.mem_singleton] at hc; subst hc; rw [sameBits_i]; simp
    · simp only [KC, List.mem_singleton] at hc; subst hc; cases n <;> simp [Instr.sameBits]
    · simp only [KC, List.mem_singleton] at hc; subst hc; rw [sameBits_s, bytes_beq]; simp
    · rw [Bool.and_eq_true] at h2
      rw [KC] at hc
      exact eqFs_mem (fun t k hg => eqOk_bits n f t k hg) _ _ _ h2.2 x c hc
    · rw [Bool.and_eq_true, List.all_eq_true] at h2
      rw [KC] at hc
      exact eqEs_mem _ (fun k hk => eqOk_bits n f _ k (h2.2 k hk)) x c hc
    · cases h2
theorem zip_self_mem {α : Type} : ∀ {l : List α} {p : α × α}, p ∈ l.zip l → p.1 ∈ l ∧ p.1 = p.2
  | a :: l, p, h => by
    rw [List.zip_cons_cons, List.mem_cons] at h
    rcases h with rfl | h
    · exact ⟨List.mem_cons_self .., rfl⟩
    · obtain ⟨h1, h2⟩ := zip_self_mem h
      exact ⟨List.mem_cons_of_mem _ h1, h2⟩
theorem chkFs_run {g : TypeId → Kd → Bool} {d : Nat} {em : Bool} (hg : ∀ t k, g t k = true → TyK P t k ∧ ∀ (x : KT k) w, (Instr.checkKey em d t (KV k x)).run P w = .ok () w) (w : World) :
    ∀ (fs : List Field) (ks : List Kd) (off : Nat), eqFs g fs ks off = true → ∀ (pre : List Value) (x : KTs ks), pre.length = off →
      (forIn fs PUnit.unit fun f (_ : PUnit) => if f.name ≠ "_" then do Instr.checkKey em d f.type (← part f.type (pre ++ KCs ks x).toArray f.offset); pure (ForInStep.yield PUnit.unit) else pure (ForInStep.yield PUnit.unit) : Sem PUnit).run P w = .ok PUnit.unit w
  | [], [], _, _, _, _, _ => by simp
  | f :: fs, k :: ks, off, h, pre, x, h1 => by
    simp only [eqFs, Bool.and_eq_true, bne_iff_ne, Nat.beq_eq] at h
    obtain ⟨⟨⟨n1, n2⟩, n3⟩, n4⟩ := h
    obtain ⟨hk, he⟩ := hg _ _ n3
    obtain ⟨x1, x2⟩ := x
    have p1 := part_run hk x1 pre (KCs ks x2) w
    rw [h1, ← n2] at p1
    rw [List.append_assoc] at p1
    have ih := chkFs_run hg w fs ks (off + wd k) n4 (pre ++ KC k x1) x2 (by simp [KC_len, h1])
    rw [List.append_assoc] at ih
    simp only [KCs, List.forIn_cons, ne_eq, n1, not_false_eq_true, if_true, Sem.run_bind, p1, he, Result.andThen_ok, Sem.run_pure]
    simpa using ih
  | [], _ :: _, _, h, _, _, _ => by simp [eqFs] at h
  | _ :: _, [], _, h, _, _, _ => by simp [eqFs] at h
theorem eqOk_chk1 {t : TypeId} {fs : Array Field} {l : List Kd} {em : Bool} (hu : P.underlying t = some (.struct fs)) (hl : eqFs (fun t k => tyOk P t k && match P.underlying t, k with | some (.int q), .i q' => decide (q = q') | some .bool, .b => true | some .string, .s => true | _, _ => false) fs.toList l 0 = true) (x : KTs l) (w : World) :
    (Instr.checkKey em 10000 t (.agg (KCs l x).toArray)).run P w = .ok () w := by
  show (Instr.checkKey em (9999 + 1) t _).run P w = _
  rw [Instr.checkKey]
  simp only [Sem.run_bind, run_underlying hu, Result.andThen_ok]
  rw [← Array.forIn_toList]
  have := chkFs_run (P := P) (d := 9999) (em := em) (g := fun t k => tyOk P t k && match P.underlying t, k with | some (.int q), .i q' => decide (q = q') | some .bool, .b => true | some .string, .s => true | _, _ => false) (fun t k hg => by
    rw [Bool.and_eq_true] at hg
    refine ⟨⟨hg.1⟩, fun x w => ?_⟩
    have hg2 := hg.2
    show (Instr.checkKey em (9998 + 1) t _).run P w = _
    split at hg2
    · rename_i q q' hu; rw [Instr.checkKey]; simp [run_underlying hu, KV]
    · rename_i hu; rw [Instr.checkKey]; simp [run_underlying hu, KV]
    · rename_i hu; rw [Instr.checkKey]; simp [run_underlying hu, KV]
    · cases hg2) w fs.toList l 0 hl [] x rfl
  simp at this ⊢
  rw [this]; rfl
theorem TyKey.st {t : TypeId} {fs : Array Field} {l : List Kd} (h : eqOk P 9 t (.st l) = true) (hu : P.underlying t = some (.struct fs)) (hl : eqFs (fun t k => tyOk P t k && match P.underlying t, k with | some (.int q), .i q' => decide (q = q') | some .bool, .b => true | some .string, .s => true | _, _ => false) fs.toList l 0 = true) : TyKey P t (.st l) where
  eqv x y w := ⟨_, (eqOk_run 9 t (.st l) h).2 10000 (by omega) x y w, eqB_iff⟩
  chk e x w := eqOk_chk1 hu hl x w
  bits x := by
    show Instr.sameBits (9999 + 1) (.agg (KCs l x).toArray) (.agg (KCs l x).toArray) = true
    rw [Instr.sameBits]
    simp only [beq_self_eq_true, Bool.true_and, List.all_eq_true]
    rintro ⟨a, b⟩ hm
    obtain ⟨h1, h2⟩ := zip_self_mem hm
    simp only at h1 h2 ⊢
    subst h2
    exact eqOk_bits 9999 9 t (.st l) h x a h1
  now := ⟨_, hu, .inr fun x y => rfl⟩
end
end Go.W
namespace Go.W
open Go
open Go.ChangeMaps (setBlock)
theorem perm_of_mem {α : Type} [DecidableEq α] : ∀ {l m : List α}, l.Nodup → m.Nodup → (∀ a, a ∈ l ↔ a ∈ m) → l.Perm m
  | [], m, _, _, h => by
    cases m with
    | nil => exact .nil
    | cons b m => have := (h b).2 (List.mem_cons_self ..); cases this
  | a :: l, m, hl, hm, h => by
    obtain ⟨hl1, hl2⟩ := List.nodup_cons.1 hl
    have ha : a ∈ m := (h a).1 (List.mem_cons_self ..)
    refine (List.Perm.cons a (perm_of_mem hl2 (hm.erase a) fun b => ?_)).trans (List.perm_cons_erase ha).symm
    rw [hm.mem_erase_iff]
    constructor
    · intro hb; exact ⟨fun e => hl1 (e ▸ hb), (h b).1 (List.mem_cons_of_mem _ hb)⟩
    · rintro ⟨h1, h2⟩
      rcases List.mem_cons.1 ((h b).2 h2) with e | hb
      · exact absurd e h1
      · exact hb
def bornAt (ents : Array MapEntry) (i : Nat) : Nat := ((ents[i]?).map (·.born)).getD 0
theorem bornAt_inj {ents : Array MapEntry} (h : (ents.toList.map (·.born)).Nodup) {i j : Nat} (hi : i < ents.size) (hj : j < ents.size) (e : bornAt ents i = bornAt ents j) : i = j := by
  unfold bornAt at e
  rw [Array.getElem?_eq_getElem hi, Array.getElem?_eq_getElem hj] at e
  simp only [Option.map_some, Option.getD_some] at e
  have hp := List.pairwise_iff_getElem.1 h
  rcases Nat.lt_trichotomy i j with hlt | heq | hgt
  · exact absurd (by rw [List.getElem_map, List.getElem_map, Array.getElem_toList, Array.getElem_toList]; exact e) (hp i j (by simpa using hi) (by simpa using hj) hlt)
  · exact heq
  · exact absurd (by rw [List.getElem_map, List.getElem_map, Array.getElem_toList, Array.getElem_toList]; exact e.symm) (hp j i (by simpa using hj) (by simpa using hi) hgt)
def itA (r m : Nat) (kk kv : Kd) (es : List (KT kk × KT kv)) (S : List Nat) : Assn :=
  exA fun p : Array MapEntry × Nat => andA (p.1.toList.map (fun e => (e.key, e.val)) = es.map (fun q => (KV kk q.1, KV kv q.2)) ∧ mpWf p.1 p.2 ∧ S.Nodup ∧ ∀ i ∈ S, i < es.length)
    (starA [objA r (.mapIter (some m) p.2 (S.map (bornAt p.1)).toArray p.2), objA m (.map p.1 p.2)])
section
variable {P : Program} {o : Fix} {Γ Δ : List Assn} {w : World}
theorem it_open {r m : Nat} {kk kv : Kd} {es : List (KT kk × KT kv)} {S : List Nat} : SH o (itA r m kk kv es S :: Γ) w ↔ ∃ (ents : Array MapEntry) (clock : Nat), ents.toList.map (fun e => (e.key, e.val)) = es.map (fun q => (KV kk q.1, KV kv q.2)) ∧ mpWf ents clock ∧ S.Nodup ∧ (∀ i ∈ S, i < es.length) ∧
    SH o (objA r (.mapIter (some m) clock (S.map (bornAt ents)).toArray clock) :: objA m (.map ents clock) :: Γ) w := by
  constructor
  · intro h
    obtain ⟨⟨ents, clock⟩, h⟩ := SH.ex.1 h
    obtain ⟨⟨h1, h2, h3, h4⟩, h⟩ := SH.and.1 h
    exact ⟨ents, clock, h1, h2, h3, h4, SH.star2.1 h⟩
  · rintro ⟨ents, clock, h1, h2, h3, h4, h⟩
    exact SH.ex.2 ⟨(ents, clock), SH.and.2 ⟨⟨h1, h2, h3, h4⟩, SH.star2.2 h⟩⟩
theorem it_close {r m : Nat} {kk kv : Kd} {es : List (KT kk × KT kv)} {S : List Nat} (h : SH o (itA r m kk kv es S :: Γ) w) : SH o (mpA m kk kv es :: Γ) w := by
  obtain ⟨ents, clock, h1, h2, _, _, h⟩ := it_open.1 h
  exact mp_close h1 h2 h.drop
theorem rng_ok {t tk te : TypeId} {m : Nat} {kk kv : Kd} {es : List (KT kk × KT kv)} {K : Value → World → Prop} (h : SH o Γ w) [hm : HasM m kk kv es Γ Δ] [ht : TyMp P t tk te] (hK : ∀ r w', SH o (itA r m kk kv es [] :: Δ) w' → K (.pointer (some ⟨r, 0, none⟩)) w') :
    mop P (Instr.range t (.map (some m))) .v K w := by
  obtain ⟨ents, clock, g1, g3, g2⟩ := mp_open (h.imp fun _ _ => hm.sat.1)
  have hh := g2.heap
  refine ⟨.pointer (some ⟨w.heap.size, 0, none⟩), w.alloc (.mapIter (some m) clock #[] clock), ?_, hK _ _ ?_⟩
  · simp [Instr.range, run_underlying ht.ok, getObj, newObj, Sem.run, hh, KV]
  · exact it_open.2 ⟨ents, clock, g1, g3, by simp, by simp, g2.allocObj _⟩
theorem nxt_ok {ty : TypeId} {r m : Nat} {kk kv : Kd} {es : List (KT kk × KT kv)} {S : List Nat} {over : World → Prop} {more : Value → Value → World → Prop} (h : SH o (itA r m kk kv es S :: Γ) w)
    (h0 : S.Perm (List.range es.length) → ∀ w', SH o (itA r m kk kv es S :: Γ) w' → over w')
    (h1 : ∀ i x y w', i ∉ S → es[i]? = some (x, y) → SH o (itA r m kk kv es (S ++ [i]) :: Γ) w' → more (KV kk x) (KV kv y) w') : mnxt P (Instr.next (.pointer (some ⟨r, 0, none⟩)) false ty) over more w := by
  obtain ⟨ents, clock, g1, g2, g3, g4, h⟩ := it_open.1 h
  have hlen : ents.size = es.length := by have := congrArg List.length g1; simpa using this
  have hr := h.heap
  have hb := h.swap.heap
  rcases run_next_at (P := P) w ty r m clock clock (S.map (bornAt ents)).toArray ents clock hr hb g2.1 (Nat.le_refl _) with ⟨hs, hrun⟩ | ⟨e, he, w1, hw1, hrun⟩
  · refine ⟨_, w, hrun, .inl ⟨rfl, h0 ?_ w (it_open.2 ⟨ents, clock, g1, g2, g3, g4, h⟩)⟩⟩
    refine perm_of_mem g3 List.nodup_range fun i => ?_
    rw [List.mem_range]
    refine ⟨g4 i, fun hi => ?_⟩
    have hnil : leftOf ents (S.map (bornAt ents)).toArray = #[] := Array.eq_empty_of_size_eq_zero hs
    unfold leftOf at hnil
    rw [Array.filter_eq_empty_iff] at hnil
    have hi' : i < ents.size := by omega
    have := hnil ents[i] (Array.getElem_mem hi')
    simp only [Bool.not_eq_true, Bool.not_eq_false', Array.contains_iff_mem] at this
    have hmem : ents[i].born ∈ S.map (bornAt ents) := by simpa using this
    obtain ⟨j, hj, e⟩ := List.mem_map.1 hmem
    have hj' : j < ents.size := by rw [hlen]; exact g4 j hj
    have : bornAt ents i = bornAt ents j := by rw [e]; simp [bornAt, Array.getElem?_eq_getElem hi']
    rw [bornAt_inj g2.2 hi' hj' this]; exact hj
  · have he' : e ∈ ents ∧ ¬ e.born ∈ S.map (bornAt ents) := by
      unfold leftOf at he
      simpa using he
    obtain ⟨i, hi, rfl⟩ := Array.mem_iff_getElem.1 he'.1
    have hbi : bornAt ents i = ents[i].born := by simp [bornAt, Array.getElem?_eq_getElem hi]
    have hnS : i ∉ S := fun hm => he'.2 (by rw [← hbi]; exact List.mem_map_of_mem hm)
    obtain ⟨x, y, hxy⟩ : ∃ x y, es[i]? = some (x, y) := ⟨es[i].1, es[i].2, List.getElem?_eq_getElem (by omega)⟩
    have hkv : ents[i].key = KV kk x ∧ ents[i].val = KV kv y := by
      have := congrArg (fun l => l[i]?) g1
      simp only [List.getElem?_map, Array.getElem?_toList, hxy, Array.getElem?_eq_getElem hi, Option.map_some, Option.some.injEq, Prod.mk.injEq] at this
      exact this
    refine ⟨_, _, hrun, .inr ⟨_, _, rfl, ?_⟩⟩
    rw [hkv.1, hkv.2]
    refine h1 i x y _ hnS hxy (it_open.2 ⟨ents, clock, g1, g2, ?_, ?_, ?_⟩)
    · exact List.nodup_append.2 ⟨g3, by simp, fun a ha b hb => by simp only [List.mem_singleton] at hb; subst hb; exact fun e => hnS (e ▸ ha)⟩
    · intro j hj
      rcases List.mem_append.1 hj with hj | hj
      · exact g4 j hj
      · simp only [List.mem_singleton] at hj; omega
    · have hpush : (S.map (bornAt ents)).toArray.push ents[i].born = ((S ++ [i]).map (bornAt ents)).toArray := by
        apply Array.toList_inj.1; simp [hbi]
      rw [← hpush]
      have hh1 : w1.heap = w.heap ∧ w1.os = w.os ∧ w1.output = w.output := by rcases hw1 with rfl | rfl <;> exact ⟨rfl, rfl, rfl⟩
      refine h.put _ (fun c => ?_) hh1.2.1 hh1.2.2
      have hlt : r < w.heap.size := (Array.getElem?_eq_some_iff.1 hr).1
      simp only [setBlock, hh1.1, Array.getElem?_setIfInBounds]
      by_cases e : c = r
      · subst e; simp [hlt]
      · rw [if_neg (fun e2 => e e2.symm), if_neg e]
theorem ent_ok {r m : Nat} {kk kv : Kd} {es : List (KT kk × KT kv)} {S : List Nat} {i : Nat} {x : KT kk} {y : KT kv} {K : Value → Value → World → Prop} (h : SH o (itA r m kk kv es (S ++ [i]) :: Γ) w) (hi : es[i]? = some (x, y)) (hK : K (KV kk x) (KV kv y) w) :
    ment P (Instr.entry (.pointer (some ⟨r, 0, none⟩))) K w := by
  obtain ⟨ents, clock, g1, g2, g3, g4, h⟩ := it_open.1 h
  have hlen : ents.size = es.length := by have := congrArg List.length g1; simpa using this
  have hlt : i < ents.size := by rw [hlen]; exact (List.getElem?_eq_some_iff.1 hi).1
  have hkv : ents[i].key = KV kk x ∧ ents[i].val = KV kv y := by
    have := congrArg (fun l => l[i]?) g1
    simp only [List.getElem?_map, Array.getElem?_toList, hi, Array.getElem?_eq_getElem hlt, Option.map_some, Option.some.injEq, Prod.mk.injEq] at this
    exact this
  have hbi : bornAt ents i = ents[i].born := by simp [bornAt, Array.getElem?_eq_getElem hlt]
  have hr := h.heap
  have hpush : ((S ++ [i]).map (bornAt ents)).toArray = (S.map (bornAt ents)).toArray.push ents[i].born := by
    apply Array.toList_inj.1; simp [hbi]
  rw [hpush] at hr
  refine ⟨ents[i].key, ents[i].val, run_entry_at w r m clock _ ents clock ents[i] hr h.swap.heap (by simp) g2.2, ?_⟩
  rw [hkv.1, hkv.2]; exact hK
end
end Go.W
namespace Go.W
open Go
abbrev Ag := Int × Int × Int × Int × (Int × Int × Int × Int × Unit) × Int × Int × Unit
abbrev Cl := Int × Int × Ag × Unit
noncomputable instance : DecidableEq Cl := fun a b => Classical.propDecidable (a = b)
def aheadB (a b : Cl) : Bool := decide (a.2.1 < b.2.1) || (a.2.1 == b.2.1 && decide (a.1 < b.1))
def kOf (c : Cl) : Int × Int := (c.2.1, c.1)
theorem ahead_iff {a b : Cl} : aheadB a b = true ↔ a.2.1 < b.2.1 ∨ a.2.1 = b.2.1 ∧ a.1 < b.1 := by simp [aheadB]
theorem ahead_trans {a b c : Cl} (h1 : aheadB a b = true) (h2 : aheadB b c = true) : aheadB a c = true := by rw [ahead_iff] at *; omega
theorem ahead_key {a b : Cl} (h1 : ¬ aheadB a b = true) (h2 : ¬ aheadB b a = true) : kOf a = kOf b := by
  rw [ahead_iff] at h1 h2
  unfold kOf; rw [Prod.mk.injEq]; omega
theorem ahead_ne {a b : Cl} (h1 : aheadB a b = true) : kOf a ≠ kOf b := by
  rw [ahead_iff] at h1; unfold kOf; rw [ne_eq, Prod.mk.injEq]; omega
theorem ahead_congr {a b c : Cl} (h : kOf a = kOf b) : aheadB a c = aheadB b c ∧ aheadB c a = aheadB c b := by
  unfold kOf at h; rw [Prod.mk.injEq] at h
  unfold aheadB; rw [h.1, h.2]; exact ⟨rfl, rfl⟩
def SortedC (l : List Cl) : Prop := l.Pairwise fun a b => aheadB a b = true
def setC : List Cl → Cl → List Cl
  | [], c => [c]
  | x :: l, c => if aheadB x c = true then x :: setC l c else if aheadB c x = true then c :: x :: l else c :: l
def delC : List Cl → Cl → Option (List Cl)
  | [], _ => none
  | x :: l, c => if aheadB x c = true then (delC l c).map (x :: ·) else if aheadB c x = true then none else some l
def valC (l : List Cl) (k : Int × Int) : Option Cl := l.find? fun c => kOf c == k
theorem setC_pre : ∀ {pre l : List Cl} {c : Cl}, (∀ x ∈ pre, aheadB x c = true) → setC (pre ++ l) c = pre ++ setC l c
  | [], _, _, _ => rfl
  | x :: pre, l, c, h => by
    rw [List.cons_append, setC, if_pos (h x (List.mem_cons_self ..)), List.cons_append]
    rw [setC_pre fun y hy => h y (List.mem_cons_of_mem _ hy)]
theorem delC_pre : ∀ {pre l : List Cl} {c : Cl}, (∀ x ∈ pre, aheadB x c = true) → delC (pre ++ l) c = (delC l c).map (pre ++ ·)
  | [], l, c, _ => by simp
  | x :: pre, l, c, h => by
    rw [List.cons_append, delC, if_pos (h x (List.mem_cons_self ..))]
    rw [delC_pre fun y hy => h y (List.mem_cons_of_mem _ hy), Option.map_map]
    rfl
theorem mem_setC : ∀ {l : List Cl} {c y : Cl}, y ∈ setC l c → y = c ∨ y ∈ l
  | [], c, y, h => by simp [setC] at h; exact .inl h
  | x :: l, c, y, h => by
    unfold setC at h
    split at h
    · rcases List.mem_cons.1 h with rfl | h
      · exact .inr (List.mem_cons_self ..)
      · exact (mem_setC h).imp id (List.mem_cons_of_mem _)
    · split at h
      · rcases List.mem_cons.1 h with rfl | h
        · exact .inl rfl
        · exact .inr h
      · rcases List.mem_cons.1 h with rfl | h
        · exact .inl rfl
        · exact .inr (List.mem_cons_of_mem _ h)
theorem setC_sorted : ∀ {l : List Cl} {c : Cl}, SortedC l → SortedC (setC l c)
  | [], c, _ => by simp [setC, SortedC]
  | x :: l, c, h => by
    obtain ⟨h1, h2⟩ := List.pairwise_cons.1 h
    unfold setC
    split
    · rename_i hx
      refine List.pairwise_cons.2 ⟨fun y hy => ?_, setC_sorted h2⟩
      rcases mem_setC hy with rfl | hy
      · exact hx
      · exact h1 y hy
    · split
      · rename_i hc
        refine List.pairwise_cons.2 ⟨fun y hy => ?_, h⟩
        rcases List.mem_cons.1 hy with rfl | hy
        · exact hc
        · exact ahead_trans hc (h1 y hy)
      · rename_i hx hc
        refine List.pairwise_cons.2 ⟨fun y hy => ?_, h2⟩
        rw [← (ahead_congr (c := y) (ahead_key hx hc)).1]
        exact h1 y hy
theorem delC_sub : ∀ {l l' : List Cl} {c : Cl}, delC l c = some l' → l'.Sublist l
  | [], _, _, h => by simp [delC] at h
  | x :: l, l', c, h => by
    unfold delC at h
    split at h
    · obtain ⟨m, hm, rfl⟩ := Option.map_eq_some_iff.1 h
      exact (delC_sub hm).cons_cons x
    · split at h
      · cases h
      · cases h; exact List.sublist_cons_self ..
theorem delC_sorted {l l' : List Cl} {c : Cl} (hs : SortedC l) (h : delC l c = some l') : SortedC l' := hs.sublist (delC_sub h)
theorem valC_cons (x : Cl) (l : List Cl) (k : Int × Int) : valC (x :: l) k = if kOf x = k then some x else valC l k := by
  unfold valC
  rw [List.find?_cons]
  by_cases h : kOf x = k
  · simp [h]
  · have : (kOf x == k) = false := by simpa using h
    rw [this, if_neg h]
theorem valC_none {l : List Cl} {k : Int × Int} (h : ∀ x ∈ l, kOf x ≠ k) : valC l k = none := by
  unfold valC; rw [List.find?_eq_none]; intro x hx; simpa using h x hx
theorem valC_set : ∀ {l : List Cl} {c : Cl} (k : Int × Int), SortedC l → valC (setC l c) k = if kOf c = k then some c else valC l k
  | [], c, k, _ => by rw [setC, valC_cons]
  | x :: l, c, k, h => by
    obtain ⟨h1, h2⟩ := List.pairwise_cons.1 h
    unfold setC
    split
    · rename_i hx
      rw [valC_cons, valC_cons, valC_set k h2]
      by_cases e1 : kOf x = k
      · have := ahead_ne hx
        rw [if_pos e1, if_pos e1, if_neg (by rw [← e1]; exact fun e => this e.symm)]
      · rw [if_neg e1, if_neg e1]
    · split
      · rw [valC_cons]
      · rename_i hx hc
        rw [valC_cons, valC_cons, ahead_key hx hc]
        split <;> rfl
theorem valC_del : ∀ {l l' : List Cl} {c : Cl} (k : Int × Int), SortedC l → delC l c = some l' → valC l' k = if kOf c = k then none else valC l k
  | [], _, _, _, _, h => by simp [delC] at h
  | x :: l, l', c, k, hs, h => by
    obtain ⟨h1, h2⟩ := List.pairwise_cons.1 hs
    unfold delC at h
    split at h
    · rename_i hx
      obtain ⟨m, hm, rfl⟩ := Option.map_eq_some_iff.1 h
      rw [valC_cons, valC_cons, valC_del k h2 hm]
      by_cases e1 : kOf x = k
      · have := ahead_ne hx
        rw [if_pos e1, if_pos e1, if_neg (by rw [← e1]; exact fun e => this e.symm)]
      · rw [if_neg e1, if_neg e1]
    · split at h
      · cases h
      · rename_i hx hc
        cases h
        have he := ahead_key hx hc
        rw [valC_cons, he]
        by_cases e1 : kOf c = k
        · rw [if_pos e1]
          exact valC_none fun y hy e => ahead_ne (h1 y hy) (by rw [he, e1, e])
        · rw [if_neg e1, if_neg e1]
theorem sorted_ext : ∀ {l m : List Cl}, SortedC l → SortedC m → (∀ k, valC l k = valC m k) → l = m
  | [], [], _, _, _ => rfl
  | [], y :: m, _, _, h => by have := h (kOf y); rw [valC_cons, if_pos rfl] at this; simp [valC] at this
  | x :: l, [], _, _, h => by have := h (kOf x); rw [valC_cons, if_pos rfl] at this; simp [valC] at this
  | x :: l, y :: m, hl, hm, h => by
    obtain ⟨l1, l2⟩ := List.pairwise_cons.1 hl
    obtain ⟨m1, m2⟩ := List.pairwise_cons.1 hm
    have notin : ∀ {a : Cl} {n : List Cl}, (∀ z ∈ n, aheadB a z = true) → valC n (kOf a) = none := fun ha => valC_none fun z hz e => ahead_ne (ha z hz) e.symm
    have hxy : x = y := by
      by_cases e1 : aheadB x y = true
      · have := h (kOf x)
        rw [valC_cons, if_pos rfl, valC_cons, if_neg (fun e => ahead_ne e1 e.symm), notin fun z hz => ahead_trans e1 (m1 z hz)] at this
        cases this
      · by_cases e2 : aheadB y x = true
        · have := h (kOf y)
          rw [valC_cons, if_neg (fun e => ahead_ne e2 e.symm), valC_cons, if_pos rfl, notin fun z hz => ahead_trans e2 (l1 z hz)] at this
          cases this
        · have he := ahead_key e1 e2
          have := h (kOf x)
          rw [valC_cons, if_pos rfl, valC_cons, if_pos he.symm] at this
          exact Option.some.inj this
    subst hxy
    have : l = m := sorted_ext l2 m2 fun k => by
      have hk := h k
      rw [valC_cons, valC_cons] at hk
      by_cases e : kOf x = k
      · subst e; rw [notin l1, notin m1]
      · rwa [if_neg e, if_neg e] at hk
    rw [this]
inductive Ch where
  | cnt (m l b n : Int)
  | here (c : Cl)
  | gone (c : Cl)
abbrev Sta := Int × Int × Int × Int × List Cl
def stepC (s : Sta) : Ch → Option Sta
  | .cnt m l b n => some (m, l, b, n, s.2.2.2.2)
  | .here c => some (s.1, s.2.1, s.2.2.1, s.2.2.2.1, setC s.2.2.2.2 c)
  | .gone c => (delC s.2.2.2.2 c).map fun l => (s.1, s.2.1, s.2.2.1, s.2.2.2.1, l)
def stepsC : Sta → List Ch → Option Sta
  | s, [] => some s
  | s, c :: l => (stepC s c).bind fun t => stepsC t l
theorem stepsC_append : ∀ {s t : Sta} {l m : List Ch}, stepsC s l = some t → stepsC s (l ++ m) = stepsC t m
  | s, t, [], m, h => by cases h; rfl
  | s, t, c :: l, m, h => by
    rw [stepsC] at h
    rw [List.cons_append, stepsC]
    cases e : stepC s c with
    | none => rw [e] at h; cases h
    | some u => rw [e] at h; exact stepsC_append (l := l) h
noncomputable def diffC : List Cl → List Cl → List Ch
  | [], [] => []
  | a :: as, [] => .gone a :: diffC as []
  | [], b :: bs => .here b :: diffC [] bs
  | a :: as, b :: bs => if aheadB a b = true then .gone a :: diffC as (b :: bs) else if aheadB b a = true then .here b :: diffC (a :: as) bs
    else if a = b then diffC as bs else .here b :: diffC as bs
  termination_by a b => a.length + b.length
theorem diffC_steps (m l b n : Int) : ∀ (a c pre : List Cl), SortedC (pre ++ a) → SortedC (pre ++ c) → stepsC (m, l, b, n, pre ++ a) (diffC a c) = some (m, l, b, n, pre ++ c)
  | [], [], pre, _, _ => by rw [diffC]; rfl
  | x :: as, [], pre, h1, h2 => by
    rw [diffC, stepsC, stepC]
    have hp : ∀ y ∈ pre, aheadB y x = true := fun y hy => (List.pairwise_append.1 h1).2.2 y hy x (List.mem_cons_self ..)
    have hx : ¬ aheadB x x = true := by rw [ahead_iff]; omega
    simp only [delC_pre hp, delC, if_neg hx, Option.map_some, Option.bind_some]
    exact diffC_steps m l b n as [] pre (h1.sublist (List.Sublist.append_left (List.sublist_cons_self ..) pre)) h2
  | [], y :: bs, pre, h1, h2 => by
    rw [diffC, stepsC, stepC]
    have hp : ∀ z ∈ pre, aheadB z y = true := fun z hz => (List.pairwise_append.1 h2).2.2 z hz y (List.mem_cons_self ..)
    simp only [setC_pre hp, setC, Option.bind_some]
    have := diffC_steps m l b n [] bs (pre ++ [y]) (by
      rw [List.append_nil]
      exact h2.sublist (by rw [show pre ++ y :: bs = (pre ++ [y]) ++ bs by simp]; exact List.sublist_append_left ..)) (by simpa using h2)
    simpa using this
  | x :: as, y :: bs, pre, h1, h2 => by
    have hp1 : ∀ z ∈ pre, aheadB z x = true := fun z hz => (List.pairwise_append.1 h1).2.2 z hz x (List.mem_cons_self ..)
    have hp2 : ∀ z ∈ pre, aheadB z y = true := fun z hz => (List.pairwise_append.1 h2).2.2 z hz y (List.mem_cons_self ..)
    have hx : ¬ aheadB x x = true := by rw [ahead_iff]; omega
    obtain ⟨p1, p2, _⟩ := List.pairwise_append.1 h1
    obtain ⟨p3, p4⟩ := List.pairwise_cons.1 p2
    obtain ⟨_, q2, q0⟩ := List.pairwise_append.1 h2
    obtain ⟨q3, q4⟩ := List.pairwise_cons.1 q2
    rw [diffC]
    split
    · rename_i e1
      rw [stepsC, stepC]
      simp only [delC_pre hp1, delC, if_neg hx, Option.map_some, Option.bind_some]
      exact diffC_steps m l b n as (y :: bs) pre (h1.sublist (List.Sublist.append_left (List.sublist_cons_self ..) pre)) h2
    · split
      · rename_i e1 e2
        rw [stepsC, stepC]
        simp only [setC_pre hp2, setC, if_neg e1, if_pos e2, Option.bind_some]
        have := diffC_steps m l b n (x :: as) bs (pre ++ [y]) (by
          rw [List.append_assoc]
          refine List.pairwise_append.2 ⟨p1, List.pairwise_cons.2 ⟨fun z hz => ?_, p2⟩, fun z hz u hu => ?_⟩
          · rcases List.mem_cons.1 hz with rfl | hz
            · exact e2
            · exact ahead_trans e2 (p3 z hz)
          · rcases List.mem_cons.1 hu with rfl | hu
            · exact hp2 z hz
            · rcases List.mem_cons.1 hu with rfl | hu
              · exact hp1 z hz
              · exact ahead_trans (hp1 z hz) (p3 u hu)) (by simpa using h2)
        simpa using this
      · rename_i e1 e2
        have hk := ahead_key e1 e2
        have s1 : SortedC (pre ++ [y] ++ as) := by
          rw [List.append_assoc]
          refine List.pairwise_append.2 ⟨p1, List.pairwise_cons.2 ⟨fun z hz => ?_, p4⟩, fun z hz u hu => ?_⟩
          · rw [← (ahead_congr (c := z) hk).1]; exact p3 z hz
          · rcases List.mem_cons.1 hu with rfl | hu
            · exact hp2 z hz
            · exact ahead_trans (hp1 z hz) (p3 u hu)
        have rest := diffC_steps m l b n as bs (pre ++ [y]) s1 (by simpa using h2)
        split
        · rename_i e; subst e
          simpa using rest
        · rw [stepsC, stepC]
          simp only [setC_pre hp2, setC, if_neg e1, if_neg e2, Option.bind_some]
          simpa using rest
  termination_by a c => a.length + c.length
def about (k : Int × Int) : Ch → Bool
  | .cnt .. => false
  | .here c => kOf c == k
  | .gone c => kOf c == k
def isCnt : Ch → Bool
  | .cnt .. => true
  | _ => false
def updV (k : Int × Int) (d : Option Cl) : Ch → Option Cl
  | .cnt .. => d
  | .here c => if kOf c = k then some c else d
  | .gone c => if kOf c = k then none else d
def updN (d : Int × Int × Int × Int) : Ch → Int × Int × Int × Int
  | .cnt m l b n => (m, l, b, n)
  | _ => d
def cnts (s : Sta) : Int × Int × Int × Int := (s.1, s.2.1, s.2.2.1, s.2.2.2.1)
theorem stepsC_spec : ∀ {l : List Ch} {s t : Sta}, SortedC s.2.2.2.2 → stepsC s l = some t → SortedC t.2.2.2.2 ∧ cnts t = l.foldl updN (cnts s) ∧ ∀ k, valC t.2.2.2.2 k = l.foldl (updV k) (valC s.2.2.2.2 k)
  | [], s, t, hs, h => by cases h; exact ⟨hs, rfl, fun _ => rfl⟩
  | .cnt m l b n :: cs, s, t, hs, h => by
    rw [stepsC, stepC] at h
    exact stepsC_spec (s := (m, l, b, n, s.2.2.2.2)) hs h
  | .here c :: cs, s, t, hs, h => by
    rw [stepsC, stepC] at h
    obtain ⟨h1, h2, h3⟩ := stepsC_spec (s := (s.1, s.2.1, s.2.2.1, s.2.2.2.1, setC s.2.2.2.2 c)) (setC_sorted hs) h
    exact ⟨h1, h2, fun k => by rw [h3 k, List.foldl_cons]; simp only [updV]; rw [valC_set k hs]⟩
  | .gone c :: cs, s, t, hs, h => by
    rw [stepsC, stepC] at h
    cases e : delC s.2.2.2.2 c with
    | none => rw [e] at h; cases h
    | some m =>
      rw [e] at h
      obtain ⟨h1, h2, h3⟩ := stepsC_spec (s := (s.1, s.2.1, s.2.2.1, s.2.2.2.1, m)) (delC_sorted hs e) h
      exact ⟨h1, h2, fun k => by rw [h3 k, List.foldl_cons]; simp only [updV]; rw [valC_del k hs e]⟩
theorem sta_ext {s t : Sta} (hs : SortedC s.2.2.2.2) (ht : SortedC t.2.2.2.2) (hc : cnts s = cnts t) (hv : ∀ k, valC s.2.2.2.2 k = valC t.2.2.2.2 k) : s = t := by
  obtain ⟨a, b, c, d, l⟩ := s
  obtain ⟨a', b', c', d', l'⟩ := t
  simp only [cnts, Prod.mk.injEq] at hc
  obtain ⟨rfl, rfl, rfl, rfl⟩ := hc
  have : l = l' := sorted_ext hs ht hv
  rw [this]
def isGone : Ch → Bool
  | .gone _ => true
  | _ => false
def sameS : Ch → Ch → Bool
  | .cnt .., .cnt .. => true
  | .cnt .., _ => false
  | _, .cnt .. => false
  | .here a, .here b => kOf a == kOf b
  | .here a, .gone b => kOf a == kOf b
  | .gone a, .here b => kOf a == kOf b
  | .gone a, .gone b => kOf a == kOf b
def cleanP : List Ch → List Ch
  | [] => []
  | g :: l => if isGone g || l.any (sameS g) then cleanP l else g :: cleanP l
theorem foldV_nothing {k : Int × Int} : ∀ {l : List Ch} {d : Option Cl}, (∀ c ∈ l, about k c = false) → l.foldl (updV k) d = d
  | [], _, _ => rfl
  | c :: l, d, h => by
    rw [List.foldl_cons]
    have h1 := h c (List.mem_cons_self ..)
    have : updV k d c = d := by
      cases c with
      | cnt => rfl
      | here c => simp [about] at h1; simp [updV, h1]
      | gone c => simp [about] at h1; simp [updV, h1]
    rw [this]
    exact foldV_nothing fun c hc => h c (List.mem_cons_of_mem _ hc)
theorem foldV_some {k : Int × Int} : ∀ {l : List Ch} {d d' : Option Cl}, (∃ c ∈ l, about k c = true) → l.foldl (updV k) d = l.foldl (updV k) d'
  | [], _, _, ⟨_, h, _⟩ => by cases h
  | c :: l, d, d', ⟨x, hx, ha⟩ => by
    rw [List.foldl_cons, List.foldl_cons]
    cases hc : about k c with
    | true =>
      have : updV k d c = updV k d' c := by
        cases c with
        | cnt => simp [about] at hc
        | here c => simp [about] at hc; simp [updV, hc]
        | gone c => simp [about] at hc; simp [updV, hc]
      rw [this]
    | false =>
      rcases List.mem_cons.1 hx with rfl | hx
      · rw [ha] at hc; cases hc
      · exact foldV_some ⟨x, hx, ha⟩
theorem foldN_some : ∀ {l : List Ch} {d d' : Int × Int × Int × Int}, (∃ c ∈ l, isCnt c = true) → l.foldl updN d = l.foldl updN d'
  | [], _, _, ⟨_, h, _⟩ => by cases h
  | c :: l, d, d', ⟨x, hx, ha⟩ => by
    rw [List.foldl_cons, List.foldl_cons]
    cases hc : isCnt c with
    | true =>
      have : updN d c = updN d' c := by cases c <;> simp_all [isCnt, updN]
      rw [this]
    | false =>
      rcases List.mem_cons.1 hx with rfl | hx
      · rw [ha] at hc; cases hc
      · exact foldN_some ⟨x, hx, ha⟩
theorem cleanP_sub : ∀ (l : List Ch), (cleanP l).Sublist l
  | [] => .slnil
  | g :: l => by
    unfold cleanP
    split
    · exact (cleanP_sub l).cons g
    · exact (cleanP_sub l).cons_cons g
theorem about_same {k : Int × Int} {g h : Ch} (hg : about k g = true) : sameS g h = about k h := by
  cases g with
  | cnt => simp [about] at hg
  | here a => simp [about] at hg; subst hg; cases h <;> simp [sameS, about, Bool.beq_comm]
  | gone a => simp [about] at hg; subst hg; cases h <;> simp [sameS, about, Bool.beq_comm]
theorem cnt_same {g h : Ch} (hg : isCnt g = true) : sameS g h = isCnt h := by
  cases g <;> simp [isCnt] at hg
  cases h <;> rfl
theorem cleanP_val (k : Int × Int) : ∀ (l : List Ch), (cleanP l).foldl (updV k) none = l.foldl (updV k) none
  | [] => rfl
  | g :: l => by
    have ih := cleanP_val k l
    cases ha : about k g with
    | false =>
      have hu : ∀ d, updV k d g = d := fun d => by
        cases g with
        | cnt => rfl
        | here c => simp [about] at ha; simp [updV, ha]
        | gone c => simp [about] at ha; simp [updV, ha]
      unfold cleanP
      split
      · rw [ih, List.foldl_cons, hu]
      · rw [List.foldl_cons, List.foldl_cons, hu, ih]
    | true =>
      by_cases hl : l.any (sameS g) = true
      · have hx : ∃ c ∈ l, about k c = true := by
          obtain ⟨c, hc, e⟩ := List.any_eq_true.1 hl
          exact ⟨c, hc, by rw [← about_same ha]; exact e⟩
        unfold cleanP
        rw [hl, Bool.or_true, if_pos rfl, ih, List.foldl_cons]
        exact foldV_some hx
      · have hn : ∀ c ∈ l, about k c = false := fun c hc => by
          rw [← about_same ha, Bool.eq_false_iff]
          exact fun e => hl (List.any_eq_true.2 ⟨c, hc, e⟩)
        have hn' : ∀ c ∈ cleanP l, about k c = false := fun c hc => hn c ((cleanP_sub l).subset hc)
        have hlf : l.any (sameS g) = false := by simpa using hl
        unfold cleanP
        rw [hlf, Bool.or_false]
        cases hg : isGone g with
        | true =>
          rw [if_pos rfl, ih, List.foldl_cons, foldV_nothing hn, foldV_nothing hn]
          cases g with
          | cnt => cases hg
          | here => cases hg
          | gone c => simp [about] at ha; simp [updV, ha]
        | false =>
          rw [if_neg (by simp), List.foldl_cons, List.foldl_cons, foldV_nothing hn, foldV_nothing hn']
theorem cleanP_cnt (d : Int × Int × Int × Int) : ∀ (l : List Ch), (cleanP l).foldl updN d = l.foldl updN d
  | [] => rfl
  | g :: l => by
    have ih := fun d => cleanP_cnt d l
    cases ha : isCnt g with
    | false =>
      have hu : ∀ d, updN d g = d := fun d => by cases g <;> simp_all [isCnt, updN]
      unfold cleanP
      split
      · rw [ih, List.foldl_cons, hu]
      · rw [List.foldl_cons, List.foldl_cons, hu, ih]
    | true =>
      have hg : isGone g = false := by cases g <;> simp_all [isCnt, isGone]
      by_cases hl : l.any (sameS g) = true
      · have hx : ∃ c ∈ l, isCnt c = true := by
          obtain ⟨c, hc, e⟩ := List.any_eq_true.1 hl
          exact ⟨c, hc, by rw [← cnt_same ha]; exact e⟩
        unfold cleanP
        rw [hl, Bool.or_true, if_pos rfl, ih, List.foldl_cons]
        exact foldN_some hx
      · have hlf : l.any (sameS g) = false := by simpa using hl
        unfold cleanP
        rw [hlf, hg, Bool.or_false, if_neg (by simp), List.foldl_cons, List.foldl_cons, ih]
theorem stepsC_noGone : ∀ {l : List Ch} (s : Sta), (∀ c ∈ l, isGone c = false) → ∃ t, stepsC s l = some t
  | [], s, _ => ⟨s, rfl⟩
  | .cnt m l b n :: cs, s, h => by rw [stepsC, stepC]; exact stepsC_noGone _ fun c hc => h c (List.mem_cons_of_mem _ hc)
  | .here c :: cs, s, h => by rw [stepsC, stepC]; exact stepsC_noGone _ fun c hc => h c (List.mem_cons_of_mem _ hc)
  | .gone c :: cs, s, h => by have := h _ (List.mem_cons_self ..); cases this
theorem cleanP_noGone : ∀ {l : List Ch}, ∀ c ∈ cleanP l, isGone c = false
  | [], c, h => by cases h
  | g :: l, c, h => by
    unfold cleanP at h
    split at h
    · exact cleanP_noGone c h
    · rename_i hn
      rcases List.mem_cons.1 h with rfl | h
      · simp at hn; exact hn.1
      · exact cleanP_noGone c h
def zeroS : Sta := (-1, 0, 0, 0, [])
theorem cleanP_steps {l : List Ch} {s : Sta} (h : stepsC zeroS l = some s) : stepsC zeroS (cleanP l) = some s := by
  obtain ⟨t, ht⟩ := stepsC_noGone (l := cleanP l) zeroS cleanP_noGone
  have h0 : SortedC zeroS.2.2.2.2 := List.Pairwise.nil
  obtain ⟨a1, a2, a3⟩ := stepsC_spec h0 h
  obtain ⟨b1, b2, b3⟩ := stepsC_spec h0 ht
  rw [ht, sta_ext b1 a1 (by rw [a2, b2, cleanP_cnt]) fun k => by rw [a3 k, b3 k]; exact cleanP_val k l]
def cleanU (upto : Int) : List (Int × Ch) → List (Int × Ch)
  | [] => []
  | g :: l => if decide (g.1 < upto) && (isGone g.2 || l.any fun h => decide (h.1 < upto) && sameS g.2 h.2) then cleanU upto l else g :: cleanU upto l
theorem cleanU_above {upto : Int} : ∀ {l : List (Int × Ch)}, (∀ g ∈ l, upto ≤ g.1) → cleanU upto l = l
  | [], _ => rfl
  | g :: l, h => by
    have h1 := h g (List.mem_cons_self ..)
    have : decide (g.1 < upto) = false := by simp; omega
    rw [cleanU, this, Bool.false_and, if_neg (by simp), cleanU_above fun g hg => h g (List.mem_cons_of_mem _ hg)]
theorem cleanU_parts {upto : Int} {q : List (Int × Ch)} (hq : ∀ g ∈ q, upto ≤ g.1) : ∀ {p : List (Int × Ch)}, (∀ g ∈ p, g.1 < upto) → (cleanU upto (p ++ q)).map (·.2) = cleanP (p.map (·.2)) ++ q.map (·.2)
  | [], _ => by simp [cleanU_above hq, cleanP]
  | g :: p, h => by
    have h1 := h g (List.mem_cons_self ..)
    have ih := cleanU_parts hq (p := p) fun g hg => h g (List.mem_cons_of_mem _ hg)
    have e1 : decide (g.1 < upto) = true := by simpa using h1
    have e2 : ((p ++ q).any fun h => decide (h.1 < upto) && sameS g.2 h.2) = (p.map (·.2)).any (sameS g.2) := by
      rw [List.any_append, List.any_map]
      have : (q.any fun h => decide (h.1 < upto) && sameS g.2 h.2) = false := by
        rw [List.any_eq_false]
        intro x hx
        have := hq x hx
        simp; intro; omega
      rw [this, Bool.or_false]
      apply Bool.eq_iff_iff.2
      rw [List.any_eq_true, List.any_eq_true]
      constructor
      · rintro ⟨x, hx, e⟩; exact ⟨x, hx, (Bool.and_eq_true _ _ ▸ e).2⟩
      · rintro ⟨x, hx, e⟩; exact ⟨x, hx, by rw [Bool.and_eq_true]; exact ⟨by simpa using h x (List.mem_cons_of_mem _ hx), e⟩⟩
    rw [List.cons_append, cleanU, e1, Bool.true_and, e2, List.map_cons, cleanP]
    split
    · exact ih
    · rw [List.map_cons, ih, List.cons_append]
theorem cleanU_sub (upto : Int) : ∀ (l : List (Int × Ch)), (cleanU upto l).Sublist l
  | [] => .slnil
  | g :: l => by
    unfold cleanU
    split
    · exact (cleanU_sub upto l).cons g
    · exact (cleanU_sub upto l).cons_cons g
theorem cleanU_steps {upto : Int} {l : List (Int × Ch)} {s : Sta} (hs : l.Pairwise fun a b => a.1 < b.1) (h : stepsC zeroS (l.map (·.2)) = some s) : stepsC zeroS ((cleanU upto l).map (·.2)) = some s := by
  obtain ⟨p, q, rfl, hp, hq⟩ : ∃ p q, l = p ++ q ∧ (∀ g ∈ p, g.1 < upto) ∧ ∀ g ∈ q, upto ≤ g.1 := by
    clear h
    induction l with
    | nil => exact ⟨[], [], rfl, by simp, by simp⟩
    | cons g l ih =>
      obtain ⟨h1, h2⟩ := List.pairwise_cons.1 hs
      by_cases hg : g.1 < upto
      · obtain ⟨p, q, rfl, hp, hq⟩ := ih h2
        refine ⟨g :: p, q, rfl, fun x hx => ?_, hq⟩
        rcases List.mem_cons.1 hx with rfl | hx
        · exact hg
        · exact hp x hx
      · refine ⟨[], g :: l, rfl, by simp, fun x hx => ?_⟩
        rcases List.mem_cons.1 hx with rfl | hx
        · omega
        · have := h1 x hx; omega
  rw [cleanU_parts hq hp]
  rw [List.map_append] at h
  cases e : stepsC zeroS (p.map (·.2)) with
  | none =>
    exfalso
    have : ∀ {l m : List Ch} {s : Sta}, stepsC s l = none → stepsC s (l ++ m) = none := by
      intro l
      induction l with
      | nil => intro m s h; cases h
      | cons c l ih =>
        intro m s h
        rw [List.cons_append, stepsC]
        rw [stepsC] at h
        cases e : stepC s c with
        | none => rfl
        | some u => rw [e] at h; exact ih h
    rw [this e] at h; cases h
  | some t =>
    rw [stepsC_append e] at h
    rw [stepsC_append (cleanP_steps e)]
    exact h
end Go.W
