/- Part of the proof's own library: sound rules for the short texts of functions, for every program. No condition. -/
import Derived.Test.YtpjhflboedicpaaGreatDoorLb
import Derived.Deep.Upon
import Derived.RangeFuncLeaves
import Derived.RangeFuncRecord
import Derived.Laws.BytesArg
import Derived.Laws.Slices
import Derived.Lib.Builder
import Derived.Lib.UnsafeStr
import Derived.Laws.Pointers
set_option linter.unusedVariables false
set_option linter.unusedSimpArgs false
namespace Go.W
open Go
class TySl (P : Program) (t : TypeId) (e : outParam TypeId) : Prop where
  ok : P.underlying t = some (.slice e)
class TyD (P : Program) (t : TypeId) (d : outParam TypeDesc) : Prop where
  ok : P.underlying t = some d
class TyMp (P : Program) (t : TypeId) (k e : outParam TypeId) : Prop where
  ok : P.underlying t = some (.map k e)
def tyE (P : Program) (t : TypeId) (k : Kd) : Bool :=
  match P.info? t with
  | some i => (match i.zero with | some z => Nat.beq z.cells.toList.length (wd k) | none => false) && Nat.ble i.bytes 256
  | none => false
class TyE (P : Program) (t : TypeId) (k : outParam Kd) : Prop where
  ok : tyE P t k = true
theorem TyE.spec {P : Program} {t : TypeId} {k : Kd} (h : TyE P t k) : ∃ i z, P.info? t = some i ∧ i.zero = some z ∧ z.cells.size = wd k ∧ i.bytes ≤ 256 := by
  have := h.ok
  unfold tyE at this
  split at this
  · rename_i i hi
    rw [Bool.and_eq_true] at this
    obtain ⟨h1, h2⟩ := this
    split at h1
    · rename_i z hz; exact ⟨i, z, hi, hz, by rw [← Array.length_toList]; exact Nat.eq_of_beq_eq_true h1, Nat.le_of_ble_eq_true h2⟩
    · cases h1
  · cases this
def rows (k : Kd) (xs : List (KT k)) : List Value := xs.flatMap (KC k)
theorem rows_len (k : Kd) (xs : List (KT k)) : (rows k xs).length = xs.length * wd k := by
  induction xs with
  | nil => simp [rows]
  | cons x xs ih => rw [rows, List.flatMap_cons, List.length_append, KC_len]; unfold rows at ih; rw [ih, List.length_cons, Nat.add_mul]; omega
theorem rows_append (k : Kd) (xs ys : List (KT k)) : rows k (xs ++ ys) = rows k xs ++ rows k ys := by simp [rows]
theorem rows_split {k : Kd} {xs : List (KT k)} {i : Nat} {x : KT k} (h : xs[i]? = some x) : xs = xs.take i ++ x :: xs.drop (i + 1) := by
  obtain ⟨hi, hx⟩ := List.getElem?_eq_some_iff.1 h
  rw [← hx, List.getElem_cons_drop]; simp
theorem rows_at {k : Kd} {xs : List (KT k)} {i : Nat} {x : KT k} (h : xs[i]? = some x) : rows k xs = rows k (xs.take i) ++ KC k x ++ rows k (xs.drop (i + 1)) := by
  conv => lhs; rw [rows_split h]
  rw [rows_append]; simp [rows]
theorem rows_ok {k : Kd} {xs : List (KT k)} (h : ∀ x ∈ xs, okV k x) : ∀ c ∈ rows k xs, c.oneCell' = true := by
  intro c hc
  obtain ⟨x, hx, hc⟩ := List.mem_flatMap.1 hc
  exact h x hx c hc
def slO (s : Sl) (t : TypeId) (k : Kd) (xs : List (KT k)) : Assn :=
  ⟨fun _ h => s.len = xs.length ∧ s.len ≤ s.cap ∧ ((s.a = none ∧ s.cap = 0 ∧ h = Frag.emp) ∨
    ∃ (b : Nat) (pre post : List Value), s.a = some ⟨b, pre.length, none⟩ ∧ (s.cap - s.len) * wd k ≤ post.length ∧ h = Frag.one b (cellsO (pre ++ rows k xs ++ post) t)), fun _ h => h⟩
def slR (s : Sl) (k : Kd) (xs : List (KT k)) : Assn :=
  ⟨fun π h => s.len = xs.length ∧ s.len ≤ s.cap ∧ h = Frag.emp ∧ (s.len = 0 ∨ ∃ (b : Nat) (pre post : List Value) (e : TypeId) (fr : Nat × Nat), s.a = some ⟨b, pre.length, none⟩ ∧ π b = some (.cells (pre ++ rows k xs ++ post).toArray e fr)),
    fun hl h => ⟨h.1, h.2.1, h.2.2.1, h.2.2.2.imp id fun ⟨b, pre, post, e, fr, h1, h2⟩ => ⟨b, pre, post, e, fr, h1, hl _ _ h2⟩⟩⟩
instance {s : Sl} {k : Kd} {xs : List (KT k)} : Dup (slR s k xs) := ⟨fun h => h.2.2.1⟩
class HasS (s : Sl) (t : outParam TypeId) (k : outParam Kd) (xs : outParam (List (KT k))) (Γ : List Assn) (Δ : outParam (List Assn)) : Prop where
  sat : ∀ {π h}, Sat Γ π h ↔ Sat (slO s t k xs :: Δ) π h
instance (priority := high) HasS.here {s : Sl} {t : TypeId} {k : Kd} {xs : List (KT k)} {Γ : List Assn} : HasS s t k xs (slO s t k xs :: Γ) Γ := ⟨Iff.rfl⟩
instance (priority := low) HasS.there {s : Sl} {t : TypeId} {k : Kd} {xs : List (KT k)} {B : Assn} {Γ Δ : List Assn} [h : HasS s t k xs Γ Δ] : HasS s t k xs (B :: Γ) (B :: Δ) := by
  have : Has (slO s t k) xs Γ Δ := ⟨h.sat⟩
  exact ⟨(Has.there (B := B)).sat⟩
class RdS (s : Sl) (k : outParam Kd) (xs : outParam (List (KT k))) (Γ : List Assn) : Prop where
  rd : ∀ {o w}, SH o Γ w → s.len = xs.length ∧ s.len ≤ s.cap ∧ (s.len = 0 ∨ ∃ (b : Nat) (pre post : List Value) (e : TypeId) (fr : Nat × Nat), s.a = some ⟨b, pre.length, none⟩ ∧ w.heap[b]? = some (.cells (pre ++ rows k xs ++ post).toArray e fr))
instance (priority := high) RdS.here {s : Sl} {t : TypeId} {k : Kd} {xs : List (KT k)} {Γ : List Assn} : RdS s k xs (slO s t k xs :: Γ) := by
  refine ⟨fun h => ?_⟩
  obtain ⟨π, h, h1, h2, h3, h4, h5, a, r, hd, rfl, ⟨ha1, ha2, ha3⟩, hs⟩ := h
  refine ⟨ha1, ha2, ha3.imp (fun h => by omega) ?_⟩
  rintro ⟨b, pre, post, e1, e2, rfl⟩
  exact ⟨b, pre, post, t, (0, 0), e1, h3 b _ (Frag.le_add _ _ b _ (by simp [Frag.one]))⟩
instance (priority := high) RdS.hereRo {s : Sl} {k : Kd} {xs : List (KT k)} {Γ : List Assn} : RdS s k xs (slR s k xs :: Γ) := by
  refine ⟨fun h => ?_⟩
  obtain ⟨π, h, h1, h2, h3, h4, h5, a, r, hd, rfl, ⟨ha1, ha2, _, ha3⟩, hs⟩ := h
  exact ⟨ha1, ha2, ha3.imp id fun ⟨b, pre, post, e, fr, e1, e2⟩ => ⟨b, pre, post, e, fr, e1, h2 _ _ e2⟩⟩
instance (priority := low) RdS.there {s : Sl} {k : Kd} {xs : List (KT k)} {B : Assn} {Γ : List Assn} [h : RdS s k xs Γ] : RdS s k xs (B :: Γ) := ⟨fun hs => h.rd hs.drop⟩
def EA (s : Sl) (k : Kd) (i : Nat) (a : Addr) : Prop := ∃ b off, s.a = some ⟨b, off, none⟩ ∧ a = ⟨b, off + i * wd k, none⟩
section
variable {P : Program} {o : Fix} {Γ Δ : List Assn} {w : World}
theorem SH.len {s : Sl} {k : Kd} {xs : List (KT k)} (h : SH o Γ w) [hr : RdS s k xs Γ] : s.len = xs.length := (hr.rd h).1
theorem ixa_ok {t te : TypeId} {k : Kd} {s : Sl} {xs : List (KT k)} {i : Int} {K : Addr → World → Prop} (h : SH o Γ w) [hr : RdS s k xs Γ] [ht : TySl P t te] [hk : TyK P te k] (h0 : 0 ≤ i) (h1 : i < s.len)
    (hK : ∀ a, EA s k i.toNat a → K a w) : ixa P t (Sl.v s) i K w := by
  obtain ⟨h2, h3, h4 | ⟨b, pre, post, e, fr, ha, hb⟩⟩ := hr.rd h
  · omega
  · obtain ⟨d, inf, hu, hi, hr, hs, _⟩ := hk.spec
    refine ⟨⟨b, pre.length + i.toNat * wd k, none⟩, ?_, hK _ ⟨b, pre.length, ha, rfl⟩⟩
    obtain ⟨sa, sl, sc⟩ := s
    subst ha
    simp [Instr.indexAt, asIntOf, run_underlying ht.ok, h0, h1, sizeOf, typeInfo, hi, hs, KV, Addr.add_mid]
theorem ld_ea {s : Sl} {t' : TypeId} {k k' : Kd} {xs : List (KT k)} {i n : Nat} {a : Addr} {x : KT k} {y : KT k'} {K : KT k' → World → Prop} (ea : EA s k i a) (h : SH o Γ w) [hr : RdS s k xs Γ] [TyK P t' k']
    (hx : xs[i]? = some x) (hK : K y w) (hg : getT k n k' x = some y) : ld P t' (ad a n) k' K w := by
  obtain ⟨b, off, e1, rfl⟩ := ea
  have hlt := (List.getElem?_eq_some_iff.1 hx).1
  obtain ⟨h2, h3, h4 | ⟨b', pre, post, e, fr, ha, hb⟩⟩ := hr.rd h
  · omega
  · rw [ha] at e1; cases e1
    obtain ⟨p, q, g1, g2⟩ := getT_spec _ hg
    · rw [rows_at hx, g1] at hb
      have hl := rows_len k (xs.take i)
      rw [List.length_take, Nat.min_eq_left (by omega)] at hl
      exact ⟨y, run_loadAt_k (rangeAt_cells (e := e) (fr := fr) (pre := pre ++ (rows k (xs.take i) ++ p)) (mid := KC k' y) (post := q ++ rows k (xs.drop (i + 1)) ++ post) (by rw [hb]; simp) (by simp [hl, g2]; omega)), hK⟩
theorem ad_zero {a : Addr} (h : a.spot = none) : ad a 0 = a := by cases a; simp_all [ad]
theorem EA.spot {s : Sl} {k : Kd} {i : Nat} {a : Addr} (h : EA s k i a) : a.spot = none := by obtain ⟨b, off, _, rfl⟩ := h; rfl
theorem ld_elf {s : Sl} {t' : TypeId} {k k' : Kd} {xs : List (KT k)} {i n : Nat} {a : Addr} {x : KT k} {y : KT k'} {K : KT k' → World → Prop} (ea : EA s k i a) (h : SH o Γ w) [hr : RdS s k xs Γ] [TyK P t' k']
    (hx : xs[i]? = some x) (hK : K y w) (hg : getT k n k' x = some y := by rfl) : ld P t' (ad a n) k' K w := ld_ea ea h hx hK hg
theorem ld_elf0 {s : Sl} {t' : TypeId} {k k' : Kd} {xs : List (KT k)} {i : Nat} {a : Addr} {x : KT k} {y : KT k'} {K : KT k' → World → Prop} (ea : EA s k i a) (h : SH o Γ w) [hr : RdS s k xs Γ] [TyK P t' k']
    (hx : xs[i]? = some x) (hK : K y w) (hg : getT k 0 k' x = some y := by rfl) : ld P t' a k' K w := by
  have := ld_ea (P := P) (t' := t') ea h hx hK hg; rwa [ad_zero ea.spot] at this
theorem ld_el {s : Sl} {t' : TypeId} {k : Kd} {xs : List (KT k)} {i : Nat} {a : Addr} {x : KT k} {K : KT k → World → Prop} (ea : EA s k i a) (h : SH o Γ w) [hr : RdS s k xs Γ] [TyK P t' k]
    (hx : xs[i]? = some x) (hK : K x w) : ld P t' a k K w := by
  obtain ⟨b, off, e1, rfl⟩ := ea
  have hlt := (List.getElem?_eq_some_iff.1 hx).1
  obtain ⟨h2, h3, h4 | ⟨b', pre, post, e, fr, ha, hb⟩⟩ := hr.rd h
  · omega
  · rw [ha] at e1; cases e1
    rw [rows_at hx] at hb
    have hl := rows_len k (xs.take i)
    rw [List.length_take, Nat.min_eq_left (by omega)] at hl
    exact ⟨x, run_loadAt_k (rangeAt_cells (e := e) (fr := fr) (pre := pre ++ rows k (xs.take i)) (mid := KC k x) (post := rows k (xs.drop (i + 1)) ++ post) (by rw [hb]; simp) (by simp [hl])), hK⟩
theorem SH.nilS (h : SH o Γ w) (t : TypeId) (k : Kd) : SH o (slO ⟨none, 0, 0⟩ t k [] :: Γ) w :=
  h.imp fun _ h hs => ⟨Frag.emp, h, Frag.emp_disj h, (Frag.emp_add h).symm, ⟨rfl, Nat.le_refl _, .inl ⟨rfl, rfl, rfl⟩⟩, hs⟩
theorem slO_freeze {s : Sl} {t : TypeId} {k : Kd} {xs : List (KT k)} (h : SH o (slO s t k xs :: Γ) w) : SH o (slR s k xs :: Γ) w := by
  obtain ⟨π, h, h1, h2, h3, h4, h5, a, r, hd, rfl, ⟨ha1, ha2, ha3⟩, hs⟩ := h
  rcases ha3 with ⟨e1, e2, rfl⟩ | ⟨b, pre, post, e1, e2, rfl⟩
  · exact ⟨π, _, h1, h2, h3, h4, h5, Frag.emp, r, hd, rfl, ⟨ha1, ha2, rfl, .inl (by omega)⟩, hs⟩
  · have : SH o (objA b (cellsO (pre ++ rows k xs ++ post) t) :: Γ) w := ⟨π, _, h1, h2, h3, h4, h5, _, r, hd, rfl, rfl, hs⟩
    exact this.freeze.conseq (A := roA b (cellsO (pre ++ rows k xs ++ post) t)) (B := slR s k xs) fun π h hp => ⟨ha1, ha2, hp.2, .inr ⟨b, pre, post, t, (0, 0), e1, hp.1⟩⟩
theorem sto_ea {s : Sl} {t t' : TypeId} {k k' : Kd} {xs : List (KT k)} {i n : Nat} {a : Addr} {x z : KT k} {y : KT k'} {K : World → Prop} (ea : EA s k i a) (h : SH o Γ w) [hr : HasS s t k xs Γ Δ] [TyK P t' k']
    (hx : xs[i]? = some x) (hz : n + wd k' ≤ wd k ∧ KC k z = (KC k x).take n ++ KC k' y ++ (KC k x).drop (n + wd k')) (hok : okV k' y) (hK : ∀ w', SH o (slO s t k (xs.set i z) :: Δ) w' → K w') : sto P t' (ad a n) k' y K w := by
  obtain ⟨b, off, e1, rfl⟩ := ea
  have hlt := (List.getElem?_eq_some_iff.1 hx).1
  have h' := h.imp fun _ _ => hr.sat.1
  obtain ⟨π, h, h1, h2, h3, h4, h5, f, r, hd, rfl, ⟨ha1, ha2, ha3⟩, hs⟩ := h'
  rcases ha3 with ⟨e2, e3, rfl⟩ | ⟨b', pre, post, e2, e3, rfl⟩
  · rw [e2] at e1; cases e1
  · rw [e2] at e1; cases e1
    have hS : SH o (objA b (cellsO (pre ++ rows k xs ++ post) t) :: Δ) w := ⟨π, _, h1, h2, h3, h4, h5, _, r, hd, rfl, rfl, hs⟩
    have hl := rows_len k (xs.take i)
    rw [List.length_take, Nat.min_eq_left (by omega)] at hl
    have hb := hS.heap
    have hlen : pre.length + i * wd k + n + wd k' ≤ (pre ++ rows k xs ++ post).length := by
      simp only [List.length_append, rows_len]
      have : (i + 1) * wd k ≤ xs.length * wd k := Nat.mul_le_mul_right _ hlt
      rw [Nat.add_mul] at this; omega
    refine ⟨_, run_storeAt_k (off := pre.length + i * wd k + n) hb hlen hok, hK _ ?_⟩
    have e4 : (pre ++ rows k xs ++ post).take (pre.length + i * wd k + n) ++ KC k' y ++ (pre ++ rows k xs ++ post).drop (pre.length + i * wd k + n + wd k') = pre ++ rows k (xs.set i z) ++ post := by
      have hxi : (xs.set i z)[i]? = some z := by simp [hlt]
      have t1 : (xs.set i z).take i = xs.take i := by rw [List.take_set_of_le (Nat.le_refl i)]
      have t2 : (xs.set i z).drop (i + 1) = xs.drop (i + 1) := by rw [List.drop_set_of_lt (by omega)]
      rw [rows_at hx, rows_at hxi, t1, t2, hz.2]
      have g1 : pre ++ (rows k (List.take i xs) ++ KC k x ++ rows k (List.drop (i + 1) xs)) ++ post = (pre ++ rows k (xs.take i)) ++ (KC k x ++ (rows k (xs.drop (i + 1)) ++ post)) := by simp
      rw [g1]
      have g2 : (pre ++ rows k (xs.take i)).length = pre.length + i * wd k := by rw [List.length_append, hl]
      rw [← g2, Nat.add_assoc, List.take_length_add_append, List.drop_length_add_append, List.take_append_of_le_length (by rw [KC_len]; omega), List.drop_append_of_le_length (by rw [KC_len]; omega)]
      simp
    rw [e4]
    have := hS.put (cellsO (pre ++ rows k (xs.set i z) ++ post) t) (w' := w.setRow b (pre ++ rows k (xs.set i z) ++ post).toArray) (heap_setRow hb _) rfl rfl
    exact this.conseq (A := objA b (cellsO (pre ++ rows k (xs.set i z) ++ post) t)) (B := slO s t k (xs.set i z)) fun π h hp => ⟨by simp [ha1], ha2, .inr ⟨b, pre, post, e2, e3, hp⟩⟩
theorem sto_elf {s : Sl} {t t' : TypeId} {k k' : Kd} {xs : List (KT k)} {i n : Nat} {a : Addr} {x z : KT k} {y : KT k'} {K : World → Prop} (ea : EA s k i a) (h : SH o Γ w) [hr : HasS s t k xs Γ Δ] [TyK P t' k']
    (hx : xs[i]? = some x) (hK : ∀ w', SH o (slO s t k (xs.set i z) :: Δ) w' → K w') (hz : setT k n k' x y = some z := by rfl) (hok : okV k' y := by exact okV_plain rfl _) : sto P t' (ad a n) k' y K w :=
  sto_ea ea h hx (setT_spec _ hz) hok hK
theorem sto_el {s : Sl} {t t' : TypeId} {k : Kd} {xs : List (KT k)} {i : Nat} {a : Addr} {y : KT k} {K : World → Prop} (ea : EA s k i a) (h : SH o Γ w) [hr : HasS s t k xs Γ Δ] [TyK P t' k]
    (hi : i < xs.length) (hK : ∀ w', SH o (slO s t k (xs.set i y) :: Δ) w' → K w') (hok : okV k y := by exact okV_plain rfl _) : sto P t' a k y K w := by
  have := sto_ea (P := P) (t' := t') (n := 0) (z := y) ea h (List.getElem?_eq_getElem hi) ⟨by omega, by simp [List.drop_eq_nil_of_le, KC_len]⟩ hok hK; rwa [ad_zero ea.spot] at this
theorem SH.row {t : TypeId} {k : Kd} {w' : World} {xs : List (KT k)} {post : List Value} {c : Nat} (h : SH o Γ w) (hw : w'.heap = w.heap.push (cellsO (rows k xs ++ post) t)) (ho : w'.os = w.os) (hu : w'.output = w.output) (hc : xs.length ≤ c) (hp : (c - xs.length) * wd k ≤ post.length) :
    SH o (slO ⟨some ⟨w.heap.size, 0, none⟩, xs.length, c⟩ t k xs :: Γ) w' :=
  (h.new _ hw ho hu).conseq (A := objA w.heap.size (cellsO (rows k xs ++ post) t)) (B := slO ⟨some ⟨w.heap.size, 0, none⟩, xs.length, c⟩ t k xs)
    fun π h hp' => ⟨rfl, hc, .inr ⟨w.heap.size, [], post, rfl, hp, hp'⟩⟩
def Onto (s r : Sl) : Prop := (r.a = s.a ∧ r.cap = s.cap) ∨ ∃ b, r.a = some ⟨b, 0, none⟩ ∧ 0 < r.cap
theorem app_core {t tx ty te : TypeId} {k : Kd} {s : Sl} {v : Value} {xs ys : List (KT k)} {K : Sl → World → Prop} (h : SH o Γ w) [hr : HasS s te k xs Γ Δ] [ht : TySl P t te] [hk : TyK P te k] [hE : TyE P te k]
    (hb : xs.length + ys.length ≤ 274877906944) (hsrc : Src P (wd k) tx v ys.length (rows k ys) w) (hK : ∀ r w', Onto s r → SH o (slO r te k (xs ++ ys) :: Δ) w' → K r w') : app P #[t, tx] ty (Sl.v s) v K w := by
  have h' := h.imp fun _ _ => hr.sat.1
  obtain ⟨i, z, hi, hz, hzs, hby⟩ := hE.spec
  obtain ⟨d, i', hu', hi', hrw, hsz, _⟩ := hk.spec
  rw [hi] at hi'; cases hi'
  rw [← hsz] at hsrc
  obtain ⟨π, hh, h1, h2, h3, h4, h5, f, r, hd, rfl, ⟨ha1, ha2, ha3⟩, hs⟩ := h'
  have hΔ : SH o Δ w := SH.drop (A := slO s te k xs) ⟨π, _, h1, h2, h3, h4, h5, f, r, hd, rfl, ⟨ha1, ha2, ha3⟩, hs⟩
  obtain ⟨sa, sl, sc⟩ := s
  simp only at ha1 ha2 ha3
  subst ha1
  have hgrow : sc < xs.length + ys.length → (Builtin.firstCells i.size xs.length (.slice sa xs.length sc)).run P w.drew = .ok (rows k xs).toArray w.drew → ∃ x w', (Builtin.append_ #[t, tx] ty #[Sl.v ⟨sa, xs.length, sc⟩, v]).run P w = .ok (KV .sl x) w' ∧ K x w' := by
    intro hlt hold
    have hfit := growslice_fits (need := xs.length + ys.length) (old := sc) (bytes := i.bytes) hlt (by
      have := Nat.mul_le_mul hb hby
      omega)
    refine ⟨⟨some ⟨w.heap.size, 0, none⟩, xs.length + ys.length, grownCap w (xs.length + ys.length) sc te⟩, _, run_append_grow_src (P := P) w t tx ty te i z ht.ok hi hz sa xs.length sc (rows k xs) hold v ys.length (rows k ys) hsrc hlt (by omega) hfit, hK _ _ (.inr ⟨_, rfl, Nat.lt_of_lt_of_le (by omega) (grownCap_ge ..)⟩) ?_⟩
    have := hΔ.row (t := te) (k := k) (w' := w.drew.alloc (.cells ((rows k xs ++ rows k ys).toArray ++ Builtin.zeroCells z.cells (grownCap w (xs.length + ys.length) sc te - (xs.length + ys.length))) te))
      (xs := xs ++ ys) (post := (Builtin.zeroCells z.cells (grownCap w (xs.length + ys.length) sc te - (xs.length + ys.length))).toList) (c := grownCap w (xs.length + ys.length) sc te)
      (by show w.heap.push _ = _; congr 2; apply Array.ext'; simp [rows_append]) rfl rfl (by rw [List.length_append]; exact grownCap_ge ..) (by simp [Builtin.zeroCells, hzs])
    simpa using this
  rcases ha3 with ⟨e1, e2, rfl⟩ | ⟨b, pre, post, e1, e2, rfl⟩
  · subst e1 e2
    have hx : xs = [] := List.length_eq_zero_iff.1 (by omega)
    subst hx
    by_cases hn : ys.length = 0
    · have hys : ys = [] := List.length_eq_zero_iff.1 hn
      subst hys
      refine ⟨⟨none, 0, 0⟩, w, ?_, hK _ _ (.inl ⟨rfl, rfl⟩) ?_⟩
      · exact run_append_nothing (P := P) w t tx ty te i ht.ok hi none 0 0 (by omega) v hsrc
      · exact hΔ.nilS te k
    · exact hgrow (by simp; omega) (by simp [Builtin.firstCells, rows])
  · subst e1
    by_cases hroom : xs.length + ys.length ≤ sc
    · have hS : SH o (objA b (cellsO (pre ++ rows k xs ++ post) te) :: Δ) w := ⟨π, _, h1, h2, h3, h4, h5, _, r, hd, rfl, rfl, hs⟩
      have hb' := hS.heap
      have hroom2 : ys.length * wd k ≤ post.length := Nat.le_trans (Nat.mul_le_mul_right _ (show ys.length ≤ sc - xs.length by omega)) e2
      have hst : (w.setCells b (pre.length + xs.length * i.size) (rows k ys)) = w.setRow b (pre ++ rows k (xs ++ ys) ++ post.drop (ys.length * wd k)).toArray := by
        have h1 := run_storeCells_at P b (pre.length + xs.length * i.size) te (rows k ys) 0 (pre ++ rows k xs ++ post).toArray w hb' (by simp [rows_len, hsz]; omega) hsrc.one
        have h2 := run_storeCells_cells (P := P) b (pre.length + xs.length * i.size) (rows k ys) 0 w (fun j hj => by
          rw [cell_of_row w b _ _ te (0, 0) hb']; simp [rows_len, hsz] at hj ⊢; omega) (fun j hj => by simp [World.frozen?, hb']) hsrc.one
        rw [h1] at h2
        simp only [Nat.add_zero, Result.ok.injEq, true_and] at h2
        rw [← h2]
        congr 2
        have g2 : (pre ++ rows k xs).length = pre.length + xs.length * i.size := by simp [rows_len, hsz]
        rw [← g2, List.take_left' rfl, List.drop_length_add_append, rows_append, rows_len]
        simp
      refine ⟨⟨some ⟨b, pre.length, none⟩, xs.length + ys.length, sc⟩, _, run_append_room_src (P := P) w t tx ty te i ht.ok hi b pre.length xs.length sc v ys.length (rows k ys) hsrc hroom (fun j hj => by
          rw [cell_of_row w b _ _ te (0, 0) hb']; simp [rows_len, hsz] at hj ⊢; omega) (fun j hj => by simp [World.frozen?, hb']), hK _ _ (.inl ⟨rfl, rfl⟩) ?_⟩
      rw [hst]
      have := hS.put (cellsO (pre ++ rows k (xs ++ ys) ++ post.drop (ys.length * wd k)) te) (heap_setRow hb' _) rfl rfl
      refine this.conseq (A := objA b _) (B := slO ⟨some ⟨b, pre.length, none⟩, xs.length + ys.length, sc⟩ te k (xs ++ ys)) fun π h hp => ⟨by simp, hroom, .inr ⟨b, pre, post.drop (ys.length * wd k), rfl, ?_, hp⟩⟩
      simp only [List.length_drop]
      have : (sc - (xs.length + ys.length)) * wd k + ys.length * wd k = (sc - xs.length) * wd k := by rw [← Nat.add_mul]; congr 1; omega
      omega
    · refine hgrow (by omega) ?_
      have hb' : w.heap[b]? = some (cellsO (pre ++ rows k xs ++ post) te) := h3 b _ (Frag.le_add _ _ b _ (by simp [Frag.one]))
      exact run_firstCells_some (P := P) w.drew i.size xs.length ⟨b, pre.length, none⟩ xs.length sc (rows k xs) (by rw [rows_len, hsz]) (fun j v hj => by rw [Addr.add_mid]; exact rangeAt_cells (w := w.drew) hb' rfl j v hj)
theorem src_sl {tx te' : TypeId} {k : Kd} {u : Sl} {ys : List (KT k)} (h : SH o Γ w) [hy : RdS u k ys Γ] (htx : P.underlying tx = some (.slice te')) (hok : ∀ y ∈ ys, okV k y) : Src P (wd k) tx (Sl.v u) ys.length (rows k ys) w := by
  obtain ⟨u1, u2, u3⟩ := hy.rd h
  obtain ⟨ua, ul, uc⟩ := u
  simp only at u1 u2 u3
  by_cases hn : ys.length = 0
  · have hys : ys = [] := List.length_eq_zero_iff.1 hn
    subst hys
    simp only [List.length_nil] at u1; subst u1
    refine ⟨.inl ⟨te', htx⟩, fun _ => rfl, ?_, ?_, by simp [rows], by simp [rows]⟩
    · cases ua <;> simp [Builtin.firstCells, rows, loadCells, loadCellsFrom]
    · cases ua <;> simp [Builtin.firstCells, rows, loadCells, loadCellsFrom]
  · rcases u3 with u3 | ⟨b, pre, post, e, fr, e1, e2⟩
    · omega
    · subst u1 e1
      exact Src.ofSlice w htx ⟨b, pre.length, none⟩ ys.length uc (rows k ys) (by rw [rows_len]) (fun j v hj => by rw [Addr.add_mid]; exact rangeAt_cells e2 rfl j v hj) (rows_ok hok)
theorem app_ok {t tx ty te te' : TypeId} {k : Kd} {s u : Sl} {xs ys : List (KT k)} {K : Sl → World → Prop} (h : SH o Γ w) [hr : HasS s te k xs Γ Δ] [hy : RdS u k ys Δ] [ht : TySl P t te] [htx : TySl P tx te'] [hk : TyK P te k] [hE : TyE P te k]
    (hb : xs.length + ys.length ≤ 274877906944) (hok : ∀ y ∈ ys, okV k y) (hK : ∀ r w', SH o (slO r te k (xs ++ ys) :: Δ) w' → K r w') : app P #[t, tx] ty (Sl.v s) (Sl.v u) K w :=
  app_core h hb (src_sl (h.imp fun _ _ => hr.sat.1).drop htx.ok hok) fun r w' _ h' => hK r w' h'
end
end Go.W
namespace Go.W
open Go
theorem exists_min {p : Nat → Prop} (h : ∃ n, p n) : ∃ n, p n ∧ ∀ k, p k → n ≤ k := by
  obtain ⟨n, hn⟩ := h
  induction n using Nat.strongRecOn with
  | _ n ih =>
    by_cases hl : ∃ k, p k ∧ k < n
    · obtain ⟨k, hk, hlt⟩ := hl; exact ih k hlt hk
    · exact ⟨n, hn, fun k hk => by rcases Nat.lt_or_ge k n with h | h; exact absurd ⟨k, hk, h⟩ hl; exact h⟩
section
variable {w : World}
theorem mif_ok {b : Bool} {x y : World → Prop} (h1 : b = true → x w) (h2 : b = false → y w) : mif b x y w := by
  cases b; exact h2 rfl; exact h1 rfl
theorem mnil_ok {a : Addr} {k : Addr → World → Prop} (h : k a w) : mnil (some a) k w := h
theorem mdz_ok {y : Int} {k : World → Prop} (hy : y ≠ 0) (h : k w) : mdz y k w := by
  cases y with
  | ofNat n => cases n with
    | zero => exact absurd rfl hy
    | succ n => exact h
  | negSucc n => exact h
theorem mng_ok {y : Int} {k : World → Prop} (hy : 0 ≤ y) (h : k w) : mng y k w := by
  cases y with
  | ofNat n => exact h
  | negSucc n => omega
theorem mcat_ok {a b : Bs} {k : Bs → World → Prop} (hl : a.length + b.length ≤ 1099511627776) (h : k (a ++ b) w) : mcat a b k w :=
  ⟨by have : IntKind.i64.max = 9223372036854775807 := by decide
      omega, h⟩
theorem loop_ok {α β σ : Type} {c : β} {body : (α → β → World → Prop) → α → World → Prop} {s0 : α} (J : σ → α → World → Prop) (m : σ → Nat) (g0 : σ) (h0 : J g0 s0 w)
    (step : ∀ g s w cont, J g s w → (∀ g' s' w', m g' < m g → J g' s' w' → cont s' c w') → body cont s w) : Loop c body s0 w := by
  classical
  have hex : ∀ s w, (∃ g, J g s w) → ∃ n, (∃ g, J g s w ∧ m g = n) ∧ ∀ k, (∃ g, J g s w ∧ m g = k) → n ≤ k :=
    fun s w ⟨g, hg⟩ => exists_min ⟨m g, g, hg, rfl⟩
  let μ : α → World → Nat := fun s w => if h : ∃ g, J g s w then (hex s w h).choose else 0
  refine ⟨fun s w => ∃ g, J g s w, μ, ⟨g0, h0⟩, fun s w hs => ?_⟩
  obtain ⟨⟨g, hg, hm⟩, _⟩ := (hex s w hs).choose_spec
  refine step g s w _ hg fun g' s' w' hlt hg' => ⟨rfl, ⟨g', hg'⟩, ?_⟩
  have h1 : μ s w = m g := by simp only [μ, dif_pos hs]; exact hm.symm
  have h2 : μ s' w' ≤ m g' := by
    simp only [μ, dif_pos (⟨g', hg'⟩ : ∃ g, J g s' w')]; exact (hex s' w' ⟨g', hg'⟩).choose_spec.2 _ ⟨g', hg', rfl⟩
  omega
end
theorem w64_of {x : Int} (h : -9223372036854775808 ≤ x) (h' : x ≤ 9223372036854775807) : w64 x = x := by
  rw [w64, IntKind.wrap_i64]; omega
end Go.W
namespace Go.W
open Go
section
variable {P : Program} {o : Fix} {Γ Δ : List Assn} {w : World}
theorem mdraw_ok {K : World → Prop} (h : SH o Γ w) (hK : ∀ w', SH o Γ w' → K w') : mdraw K w := by
  exact hK _ (h.same rfl rfl rfl)
theorem run_ld_fld {a : Addr} {n : Nat} {t t' : TypeId} {k k' : Kd} {x : KT k} {y : KT k'} (h : SH o Γ w) [hr : RdV a t k x Γ] [TyK P t' k'] (hg : getT k n k' x = some y) :
    (Instr.loadAt t' (.pointer (some (ad a n)))).run P w = .ok (KV k' y) w := by
  obtain ⟨b, rfl, hb⟩ := hr.rd h
  simp only [ad, Nat.zero_add]
  obtain ⟨pre, post, h1, h2⟩ := getT_spec _ hg
  rw [h1] at hb; exact run_loadAt_k (rangeAt_cells hb h2)
theorem mst_fld {a : Addr} {n : Nat} {t t' : TypeId} {k k' : Kd} {x : KT k} {y : KT k'} {v : Value} {K : World → Prop} (h : SH o Γ w) [hr : RdV a t k x Γ] [TyK P t' k'] (hK : K w) (hg : getT k n k' x = some y := by rfl) (hv : KV k' y = v := by rfl) :
    mst P (Instr.loadAt t' (.pointer (some (ad a n)))) v K w := ⟨by rw [run_ld_fld (a := a) h hg, hv], hK⟩
theorem mst_fld0 {a : Addr} {t t' : TypeId} {k k' : Kd} {x : KT k} {y : KT k'} {v : Value} {K : World → Prop} (h : SH o Γ w) [hr : RdV a t k x Γ] [TyK P t' k'] (hK : K w) (hg : getT k 0 k' x = some y := by rfl) (hv : KV k' y = v := by rfl) :
    mst P (Instr.loadAt t' (.pointer (some a))) v K w := by
  have ha : ad a 0 = a := by obtain ⟨b, rfl, _⟩ := hr.rd h; rfl
  have := run_ld_fld (P := P) (t' := t') (a := a) h hg
  rw [ha] at this
  exact ⟨by rw [this, hv], hK⟩
theorem run_ixa {t te : TypeId} {k : Kd} {s : Sl} {xs : List (KT k)} {i : Int} {a : Addr} (h : SH o Γ w) [hr : RdS s k xs Γ] [ht : TySl P t te] [hk : TyK P te k] (ea : EA s k i.toNat a) (h0 : 0 ≤ i) (h1 : i < s.len) :
    (Instr.indexAt t (Sl.v s) (.int .i64 i)).run P w = .ok (.pointer (some a)) w := by
  have : ixa P t (Sl.v s) i (fun a' w' => w' = w ∧ EA s k i.toNat a') w := ixa_ok h h0 h1 fun a' ha' => ⟨rfl, ha'⟩
  obtain ⟨x, hx, _, hx2⟩ := this
  obtain ⟨b, off, e1, rfl⟩ := ea
  obtain ⟨b', off', e1', rfl⟩ := hx2
  rw [e1] at e1'; cases e1'; exact hx
theorem mst_ixa {t te : TypeId} {k : Kd} {s : Sl} {xs : List (KT k)} {i : Int} {a : Addr} {K : World → Prop} (h : SH o Γ w) [hr : RdS s k xs Γ] [ht : TySl P t te] [hk : TyK P te k] (ea : EA s k i.toNat a) (h0 : 0 ≤ i) (h1 : i < s.len) (hK : K w) :
    mst P (Instr.indexAt t (.slice s.a s.len s.cap) (.int .i64 i)) (.pointer (some a)) K w := ⟨run_ixa h ea h0 h1, hK⟩
theorem mst_el {s : Sl} {t' : TypeId} {k : Kd} {xs : List (KT k)} {i : Nat} {a : Addr} {x : KT k} {v : Value} {K : World → Prop} (ea : EA s k i a) (h : SH o Γ w) [hr : RdS s k xs Γ] [TyK P t' k]
    (hx : xs[i]? = some x) (hK : K w) (hv : KV k x = v := by rfl) : mst P (Instr.loadAt t' (.pointer (some a))) v K w := by
  have : ld P t' a k (fun y w' => w' = w ∧ y = x) w := ld_el ea h hx ⟨rfl, rfl⟩
  obtain ⟨y, hy, _, rfl⟩ := this
  exact ⟨by rw [hy, hv], hK⟩
end
end Go.W
namespace Go.W
open Go
abbrev mark (d : Nat) : Deferred := { target := .collected d, args := #[] }
structure RF where
  fn : FuncId
  tmps : Array Value
  ps : Array Tmp
  assign : Code
  body : Code
  d : Nat
def RF.lp (r : RF) (st : LoopState) (pe : Option Code) : Go.Loop := { state := st, pending := pe, fn := r.fn, tmps := r.tmps, params := r.ps, assign := r.assign, body := r.body, defers := r.d }
abbrev rfA (l : Nat) (r : RF) (st : LoopState) (pe : Option Code) : Assn := objA l (.loop (r.lp st pe))
abbrev dfA (d : Nat) : Assn := objA d (.deferred (some []))
section
variable {o : Fix} {Γ Δ : List Assn} {w : World}
theorem SH.putObj {b : Nat} {x : Obj} (y : Obj) (h : SH o (objA b x :: Γ) w) : SH o (objA b y :: Γ) (w.putObj b y) := by
  have hb := h.heap
  have hlt : b < w.heap.size := (Array.getElem?_eq_some_iff.1 hb).1
  refine h.put y (fun c => ?_) rfl rfl
  by_cases e : c = b
  · subst e; rw [World.putObj_heap_same hlt, if_pos rfl]
  · rw [World.putObj_heap_other e, if_neg e]
theorem SH.allocObj (x : Obj) (h : SH o Γ w) : SH o (objA w.heap.size x :: Γ) (w.alloc x) := h.new x rfl rfl rfl
end
def argsE (env : Env) (l : List (Tmp × Value)) : Env := l.foldl (fun e q => e.set q.1 (some q.2)) env
theorem Rel.args {a : Act} : ∀ (l : List (Tmp × Value)) {env : Env}, Rel env a → Rel (argsE env l) { a with tmps := l.foldl (fun t q => t.setIfInBounds q.1 q.2) a.tmps }
  | [], _, h => h
  | (t, v) :: l, env, h => Rel.args l (h.put (some t) v)
theorem foldl_size (l : List (Tmp × Value)) : ∀ (t : Array Value), (l.foldl (fun t q => t.setIfInBounds q.1 q.2) t).size = t.size := by
  induction l with
  | nil => intro t; rfl
  | cons x l ih => intro t; rw [List.foldl_cons, ih]; simp
def rndQ (o : Fix) (l : Nat) (r : RF) (K : Bool → World → Prop) : Exit → Env → World → Prop
  | .normal, _, w => ∃ Γ, SH o (rfA l r .busy none :: Γ) w ∧ ∀ w', SH o (rfA l r .ready none :: Γ) w' → K true w'
  | .ret, _, w => ∃ Γ, SH o (rfA l r .busy none :: Γ) w ∧ ∀ w', SH o (rfA l r .done (some .ret) :: Γ) w' → K false w'
  | .exit id, _, w => ∃ Γ, SH o (rfA l r .busy none :: Γ) w ∧ ∀ w', SH o (rfA l r .done (some (.exit id)) :: Γ) w' → K false w'
  | _, _, _ => False
section
variable {P : Program} {o : Fix} {Γ Δ : List Assn} {w : World}
theorem yield_cut {l n : Nat} {r : RF} {args : List Value} {K : Bool → World → Prop} {env : Env} {D : List Deferred} {l2 : Slots} {F : KTs (kds l2) → World → Prop} (hm : P.follows .mixedOrders = true) (h : SH o (rfA l r .ready none :: Γ) w)
    (hs : args.length = r.ps.size) (hn : r.tmps.size = n) (hR : Rel env ⟨r.tmps, D⟩) (hc : codeW P r.assign (fun e env => match e with | .normal => getE env l2 F | _ => fun _ => False) (argsE env (r.ps.toList.zip args)) w)
    (hF : ∀ x w, F x w → ∃ Γ, SH o (rfA l r .ready none :: Γ) w ∧ ∀ w', SH o (rfA l r .busy none :: Γ) w' → codeW P r.body (rndQ o l r K) (mkE n l2 x) w') : myield P l args .b K w := by
  refine ⟨_, _, _, _, run_yield h.heap (by simpa [RF.lp] using hs), roundIn_of_wpIn trivial ?_⟩
  have ht : ((r.ps.zip args.toArray).foldl (fun tmps (x : Tmp × Value) => tmps.setIfInBounds x.1 x.2) r.tmps) = (r.ps.toList.zip args).foldl (fun t q => t.setIfInBounds q.1 q.2) r.tmps := by
    rw [← Array.foldl_toList]; simp
  have hR' : Rel (argsE env (r.ps.toList.zip args)) { tmps := (r.ps.zip args.toArray).foldl (fun tmps (x : Tmp × Value) => tmps.setIfInBounds x.1 x.2) r.tmps, defers := [] } := by
    rw [ht]
    have := Rel.args (r.ps.toList.zip args) hR
    exact ⟨this.len, this.val⟩
  have hw := WPR.code (ro := some l) (D := []) (n := r.tmps.size) hm _ _ _ _ hc _ rfl (by rw [ht, foldl_size]) hR'
  refine wpIn_mono hw ?_
  intro e a₁ w₁ hl
  cases e with
  | normal =>
    obtain ⟨h1, h2, env1, h3, h4⟩ := hl
    obtain ⟨x, hx, hle⟩ := getE_elim (n := n) (by rw [h3.len, h2, hn]) h4
    obtain ⟨Γ1, h5, h6⟩ := hF x _ hx
    refine ⟨_, run_beginRound h5.heap rfl, ?_⟩
    have hw2 := WPR.code (ro := some l) (D := []) (n := r.tmps.size) hm _ _ _ _ (h6 _ (h5.putObj _)) a₁ h1 h2 (h3.mono hle)
    refine wpIn_mono hw2 ?_
    intro e a₂ w₂ hl
    cases e with
    | normal =>
      obtain ⟨_, _, _, _, Γ2, g1, g2⟩ := hl
      exact ⟨_, _, run_endRound none g1.heap, true, rfl, g2 _ (g1.putObj _)⟩
    | ret =>
      obtain ⟨_, _, _, _, Γ2, g1, g2⟩ := hl
      exact ⟨_, _, run_endRound (some .ret) g1.heap, false, rfl, g2 _ (g1.putObj _)⟩
    | exit id =>
      obtain ⟨_, _, _, _, Γ2, g1, g2⟩ := hl
      exact ⟨_, _, run_endRound (some (.exit id)) g1.heap, false, rfl, g2 _ (g1.putObj _)⟩
    | goto t => obtain ⟨_, _, _, _, hh⟩ := hl; exact hh.elim
    | panic c => exact hl.elim
    | outgrown => exact hl.elim
  | ret => obtain ⟨_, _, _, _, hh⟩ := hl; exact hh.elim
  | exit id => obtain ⟨_, _, _, _, hh⟩ := hl; exact hh.elim
  | goto t => obtain ⟨_, _, _, _, hh⟩ := hl; exact hh.elim
  | panic c => exact hl.elim
  | outgrown => exact hl.elim
end
def LiftM (n : Nat) (Q : Exit → Env → List Nat → World → Prop) : Exit → Act → World → Prop
  | .outgrown, _, _ => False
  | .panic _, _, _ => False
  | e, a, w => ∃ ds : List Nat, a.defers = ds.map mark ∧ a.tmps.size = n ∧ ∃ env, Rel env a ∧ Q e env ds w
def WPM (P : Program) (n : Nat) (c : Code) (Q : Exit → Env → List Nat → World → Prop) (env : Env) (ds : List Nat) (w : World) : Prop :=
  ∀ a, a.defers = ds.map mark → a.tmps.size = n → Rel env a → c.wpIn (Fw none) 0 P (LiftM n Q) a w
section
variable {P : Program} {n : Nat} {Q : Exit → Env → List Nat → World → Prop} {env : Env} {ds : List Nat} {w : World} {o : Fix} {Γ : List Assn}
theorem WPM.mono {c : Code} {Q' : Exit → Env → List Nat → World → Prop} (h : WPM P n c Q env ds w) (hq : ∀ e env ds w, Q e env ds w → Q' e env ds w) : WPM P n c Q' env ds w := by
  intro a hD hn hR
  refine wpIn_mono (h a hD hn hR) ?_
  intro e a w hl
  cases e <;> first | (obtain ⟨ds, h1, h2, env, h3, h4⟩ := hl; exact ⟨ds, h1, h2, env, h3, hq _ _ _ _ h4⟩) | exact hl
theorem WPM.le {c : Code} {env' : Env} (h : WPM P n c Q env ds w) (hle : ELe env env') : WPM P n c Q env' ds w := fun a hD hn hR => h a hD hn (hR.mono hle)
theorem WPM.code (hm : P.follows .mixedOrders = true) {c : Code} (h : codeW P c (fun e env w => Q e env ds w) env w) : WPM P n c Q env ds w := by
  intro a hD hn hR
  refine wpIn_mono (WPR.code (ro := none) hm c _ env w h a hD hn hR) ?_
  intro e a w hl
  cases e <;> first | (obtain ⟨h1, h2, env, h3, h4⟩ := hl; exact ⟨ds, h1, h2, env, h3, h4⟩) | exact hl
theorem WPM.seq {x y : Code} {K : Env → List Nat → World → Prop} (h : WPM P n x (fun e env' ds' => match e with | .normal => K env' ds' | e => Q e env' ds') env ds w)
    (hk : ∀ env ds w, env.length = n → K env ds w → WPM P n y Q env ds w) : WPM P n (.seq x y) Q env ds w := by
  intro a hD hn hR
  refine wpIn_seq (wpIn_mono (h a hD hn hR) ?_)
  intro e a w hl
  cases e <;> first | (obtain ⟨ds, h1, h2, env, h3, h4⟩ := hl; exact hk env ds w (h3.len.trans h2) h4 a h1 h2 h3) | (obtain ⟨ds, h1, h2, env, h3, h4⟩ := hl; exact ⟨ds, h1, h2, env, h3, h4⟩) | exact hl.elim
theorem WPM.cond {c : Operand} {x y : Code} {t : Bool} (hc : rdE env c = some (.bool t)) (h : mif t (WPM P n x Q env ds) (WPM P n y Q env ds) w) : WPM P n (.cond c x y) Q env ds w := by
  intro a hD hn hR
  refine wpIn_cond (hR.eval hc) ?_
  cases t
  · exact h a hD hn hR
  · exact h a hD hn hR
theorem WPM.block {id : Nat} {c : Code} (h : WPM P n c (fun e env' ds' => match e with | .exit i => (match Nat.beq i id with | true => Q .normal env' ds' | false => Q (.exit i) env' ds') | e => Q e env' ds') env ds w) : WPM P n (.block id c) Q env ds w := by
  intro a hD hn hR
  refine wpIn_block (wpIn_mono (h a hD hn hR) ?_)
  intro e a w hl
  cases e with
  | exit i =>
    obtain ⟨ds, h1, h2, env, h3, h4⟩ := hl
    simp only [Exit.inBlock]
    by_cases e : i = id
    · subst e
      have hb : Nat.beq i i = true := by simp
      simp only [hb] at h4
      rw [if_pos rfl]; exact ⟨ds, h1, h2, env, h3, h4⟩
    · have hb : Nat.beq i id = false := by cases hb : Nat.beq i id with | true => exact absurd (Nat.eq_of_beq_eq_true hb) e | false => rfl
      simp only [hb] at h4
      rw [if_neg e]; exact ⟨ds, h1, h2, env, h3, h4⟩
  | _ => first | exact hl | (obtain ⟨ds, h1, h2, env, h3, h4⟩ := hl; exact ⟨ds, h1, h2, env, h3, h4⟩)
theorem WPM.loop {σ : Type} {b : Code} (J : σ → Env → List Nat → World → Prop) (μ : σ → Nat) {s0 : σ} (h0 : J s0 env ds w)
    (hb : ∀ s env ds w, env.length = n → J s env ds w → WPM P n b (fun e env' ds' w' => match e with | .normal => ∃ s', μ s' < μ s ∧ J s' env' ds' w' | e => Q e env' ds' w') env ds w) : WPM P n (.loop b) Q env ds w := by
  intro a hD hn hR
  classical
  let I : Act → World → Prop := fun a w => ∃ s ds env, a.defers = ds.map mark ∧ a.tmps.size = n ∧ Rel env a ∧ J s env ds w
  let p : Act → World → Nat → Prop := fun a w m => ∃ s ds env, a.defers = ds.map mark ∧ a.tmps.size = n ∧ Rel env a ∧ J s env ds w ∧ μ s = m
  have hex : ∀ a w, I a w → ∃ m, p a w m ∧ ∀ k, p a w k → m ≤ k := fun a w ⟨s, ds, env, h1, h2, h3, h4⟩ => exists_min ⟨μ s, s, ds, env, h1, h2, h3, h4, rfl⟩
  let M : Act → World → Nat := fun a w => if h : I a w then (hex a w h).choose else 0
  refine wpIn_loop I M ⟨s0, ds, env, hD, hn, hR, h0⟩ ?_
  intro a w hI
  obtain ⟨⟨s, ds, env, h1, h2, h3, h4, h5⟩, _⟩ := (hex a w hI).choose_spec
  refine wpIn_mono (hb s env ds w (h3.len.trans h2) h4 a h1 h2 h3) ?_
  intro e a' w' hl
  cases e with
  | normal =>
    obtain ⟨ds', g1, g2, env', g3, s', g4, g5⟩ := hl
    have hI' : I a' w' := ⟨s', ds', env', g1, g2, g3, g5⟩
    refine ⟨hI', ?_⟩
    have e1 : M a w = μ s := by simp only [M, dif_pos hI]; exact h5.symm
    have e2 : M a' w' ≤ μ s' := by
      simp only [M, dif_pos hI']; exact (hex a' w' hI').choose_spec.2 _ ⟨s', ds', env', g1, g2, g3, g5, rfl⟩
    omega
  | _ => exact hl
theorem WPM.range {g : Operand} {ps : Array Tmp} {assign body : Code} {gf : Nat} {lb : Array Value} (h : SH o Γ w) (hg : rdE env g = some (.func (.func gf) #[] lb)) (he : Enters P gf)
    (hc : ∀ (l : Nat) (r : RF) (D : List Deferred) (w : World), r.ps = ps → r.assign = assign → r.body = body → r.tmps.size = n → Rel env ⟨r.tmps, D⟩ → SH o (rfA l r .ready none :: dfA r.d :: Γ) w →
      mcall P gf (.func (.yield l) #[] #[] :: lb.toList) (.tup []) (fun _ w2 => ∃ st pe Δ, st ≠ .busy ∧ SH o (rfA l r st pe :: Δ) w2 ∧ ∀ w3, SH o Δ w3 →
        match pe with | none => Q .normal env (r.d :: ds) w3 | some .ret => Q .ret env (r.d :: ds) w3 | some (.exit id) => Q (.exit id) env (r.d :: ds) w3 | _ => False) w) :
    WPM P n (.rangeFunc g ps assign body) Q env ds w := by
  intro a hD hn hR
  refine wpIn_rangeFunc ?_
  intro fn hfn
  let r : RF := { fn, tmps := a.tmps, ps, assign, body, d := w.heap.size }
  obtain ⟨W1, hW1⟩ : ∃ W1, (w.alloc (.deferred (some []))).alloc (.loop (r.lp .ready none)) = W1 := ⟨_, rfl⟩
  have hg' := hR.eval hg
  have h1 : SH o (rfA (w.heap.size + 1) r .ready none :: dfA r.d :: Γ) W1 := by
    rw [← hW1]
    have := (h.allocObj (.deferred (some []))).allocObj (.loop (r.lp .ready none))
    simpa [r] using this
  have hcall := hc (w.heap.size + 1) r a.defers W1 rfl rfl rfl hn hR h1
  refine ⟨w.heap.size + 1, [mark w.heap.size], W1, { target := .fn (.func gf) lb, args := #[.func (.yield (w.heap.size + 1)) #[] #[]] }, W1, gf,
    #[.func (.yield (w.heap.size + 1)) #[] #[]] ++ lb, W1, ?_, ?_, fun _ _ => trivial, ?_, fun h => by simp [Fence.wide] at h, ?_⟩
  · rw [← hW1]; exact run_enterLoop_outer _ _ _ _ _
  · simp only [resolve, hg']
    simp [go_sem]
  · simp [invoke, go_sem, he _ _]
  · obtain ⟨_, hcc⟩ | ⟨x, w', h1, _⟩ := hcall
    · have e : (Value.func (.yield (w.heap.size + 1)) #[] #[] :: lb.toList).toArray = #[.func (.yield (w.heap.size + 1)) #[] #[]] ++ lb := by apply Array.toList_inj.1; simp
      rw [e] at hcc
      refine CallsIn.mono (callsIn_wide.2 hcc) ?_
      rintro e w2 ⟨x, rfl, st, pe, Δ, hst, h2, h3⟩
      have hq := h3 _ (h2.putObj (.loop { r.lp st pe with state := .exhausted })).drop
      refine ⟨pe, _, run_endLoop h2.heap hst, ?_⟩
      have hD' : ([mark w.heap.size] ++ a.defers) = (r.d :: ds).map mark := by rw [hD]; rfl
      cases pe with
      | none => exact ⟨r.d :: ds, hD', hn, env, ⟨hR.len, hR.val⟩, hq⟩
      | some c =>
        cases c <;> first | exact hq.elim | skip
        · exact wpIn_exit ⟨r.d :: ds, hD', hn, env, ⟨hR.len, hR.val⟩, hq⟩
        · exact wpIn_ret ⟨r.d :: ds, hD', hn, env, ⟨hR.len, hR.val⟩, hq⟩
    · rw [he] at h1; cases h1
def mtake (P : Program) : List Nat → (World → Prop) → World → Prop
  | [], k, w => k w
  | d :: ds, k, w => ∃ w', (Instr.takeDeferred d).run P w = .ok [] w' ∧ mtake P ds k w'
theorem mtake_ok : ∀ {ds : List Nat} {K : World → Prop} {w : World}, SH o (ds.map dfA ++ Γ) w → (∀ w', SH o Γ w' → K w') → mtake P ds K w
  | [], _, _, h, hK => hK _ h
  | _ :: _, _, _, h, hK => ⟨_, run_takeDeferred h.heap, mtake_ok (h.putObj (.deferred none)).drop hK⟩
theorem leaves_of_take {fn : Func} {tmps : Array Value} {R : Ending → World → Prop} : ∀ (ds : List Nat) (w : World), mtake P ds (fun w => ∃ v, (results fn tmps).run P w = .ok v w ∧ R (.returned v) w) w →
    LeavesInM (Fw none) 0 P fn tmps R (ds.map mark) .returning w
  | [], _, h => h
  | d :: ds, _, ⟨w', h1, h2⟩ => ⟨by simp, .inl ⟨d, w', rfl, h1, leaves_of_take ds w' h2⟩⟩
theorem mtake_mono {K K' : World → Prop} (hk : ∀ w, K w → K' w) : ∀ {ds : List Nat} {w : World}, mtake P ds K w → mtake P ds K' w
  | [], _, h => hk _ h
  | _ :: _, _, ⟨w', h1, h2⟩ => ⟨w', h1, mtake_mono hk h2⟩
def topM (P : Program) (rs : List ResultVar) (kd : Kd) (R : KT kd → World → Prop) : Exit → Env → List Nat → World → Prop :=
  fun e env ds => match e with
  | .normal | .ret => mtake P ds (resW P env rs fun vs => match unV kd (packV vs) with | some x => R x | none => fun _ => False)
  | _ => fun _ => False
theorem mcall_marks {f n : Nat} {fn : Func} {c : Code} {args : List Value} {kdr : Kd} {R : KT kdr → World → Prop}
    (hf : P.funcs[f]? = some fn) (hb : fn.body = some c) (hnm : (fn.name == "runtime.NumGoroutine") = false) (hn : fn.ntmps = n) (hl : Nat.ble args.length n = true)
    (h : WPM P n c (topM P fn.results.toList kdr R) (argE n args) [] w) : mcall P f args kdr R w := by
  subst hn
  have hl' : args.length ≤ fn.ntmps := Nat.le_of_ble_eq_true hl
  refine .enter (.of hf hb hnm) (callsIn_wide (n := 0).1 (callsIn_of_wp_marks hf hb trivial (wpIn_mono (h _ rfl ?_ ?_) ?_)))
  · simp; omega
  · refine ⟨by simp [argE], fun t v hv => ?_⟩
    unfold argE at hv
    rcases Nat.lt_or_ge t args.length with ht | ht
    · rw [List.getElem?_append_left (by simpa using ht)] at hv
      simp only [List.getElem?_map, Option.map_eq_some_iff] at hv
      obtain ⟨x, hx, he⟩ := hv
      simp at he; subst he
      rw [Array.getElem?_append_left (by simpa using ht)]
      simpa using hx
    · rw [List.getElem?_append_right (by simpa using ht), List.getElem?_replicate] at hv
      split at hv <;> simp at hv
  · intro e a w hl
    cases e with
    | normal =>
      obtain ⟨ds, h1, h2, env, h3, h4⟩ := hl
      show LeavesInM _ _ _ _ _ _ _ _ _
      rw [h1]
      refine leaves_of_take ds w (mtake_mono (fun w hw => ?_) h4)
      obtain ⟨x, hx, hr⟩ := resW_sound h3 hw
      exact ⟨_, hx, x, rfl, hr⟩
    | ret =>
      obtain ⟨ds, h1, h2, env, h3, h4⟩ := hl
      show LeavesInM _ _ _ _ _ _ _ _ _
      rw [h1]
      refine leaves_of_take ds w (mtake_mono (fun w hw => ?_) h4)
      obtain ⟨x, hx, hr⟩ := resW_sound h3 hw
      exact ⟨_, hx, x, rfl, hr⟩
    | exit i => obtain ⟨ds, h1, h2, env, h3, h4⟩ := hl; exact h4.elim
    | goto i => obtain ⟨ds, h1, h2, env, h3, h4⟩ := hl; exact h4.elim
    | panic c => exact hl.elim
    | outgrown => exact hl.elim
theorem WPM.cut (hm : P.follows .mixedOrders = true) {K : Env → World → Prop} : ∀ (m : Nat) (c : Code) (env : Env) (w : World), cutW P K (fun e env => Q e env ds) m c env w →
    env.length = n → (∀ env w, env.length = n → K env w → WPM P n (restC m c) Q env ds w) → WPM P n c Q env ds w
  | 0, c, env, w, h, hl, hk => hk env w hl h
  | m + 1, .seq a b, env, w, h, _, hk => by
    refine WPM.seq (K := fun env ds' w => ds' = ds ∧ cutW P K (fun e env => Q e env ds) m b env w) ?_ fun env ds' w hl h => h.1 ▸ WPM.cut hm m b env w h.2 hl hk
    refine WPM.code hm (?_ : codeW P a _ env w)
    have e : (fun (e : Exit) (env' : Env) (w : World) => (match e with | .normal => (fun env ds' w => ds' = ds ∧ cutW P K (fun e env => Q e env ds) m b env w) env' ds | e => Q e env' ds) w) =
        fun e env' => match e with | .normal => cutW P K (fun e env => Q e env ds) m b env' | e => Q e env' ds := by
      funext e env' w; cases e <;> first | rfl | (simp only [true_and])
    rw [e]; exact h
  | m + 1, .skip, env, w, h, _, _ | m + 1, .region .., env, w, h, _, _ | m + 1, .cond .., env, w, h, _, _ | m + 1, .block .., env, w, h, _, _ | m + 1, .loop .., env, w, h, _, _
  | m + 1, .exit .., env, w, h, _, _ | m + 1, .rangeFunc .., env, w, h, _, _ | m + 1, .scope .., env, w, h, _, _ | m + 1, .label .., env, w, h, _, _ | m + 1, .goto .., env, w, h, _, _
  | m + 1, .ret, env, w, h, _, _ | m + 1, .refuse .., env, w, h, _, _ => WPM.code hm h
theorem pm_cut (hm : P.follows .mixedOrders = true) {l : Slots} {F : KTs (kds l) → World → Prop} {c c' : Code} {T : Prop} (m : Nat) (hl : env.length = n) (hr : restC m c = c')
    (e : T = cutW P (fun env => getE env l F) (fun e env => Q e env ds) m c env w) (hF : ∀ x w, F x w → WPM P n c' Q (mkE n l x) ds w) (h : T) : WPM P n c Q env ds w := by
  refine WPM.cut hm m c env w (e ▸ h) hl fun env w hl h => ?_
  subst hr
  obtain ⟨x, h1, h2⟩ := getE_elim hl h
  exact (hF x w h1).le h2
theorem pm_code (hm : P.follows .mixedOrders = true) {c : Code} {T : Prop} (e : T = codeW P c (fun e env => Q e env ds) env w) (h : T) : WPM P n c Q env ds w := WPM.code hm (e ▸ h)
theorem pm_seq {c0 a b : Code} (hc : c0 = .seq a b) {K : Env → List Nat → World → Prop} (h : WPM P n a (fun e env' ds' => match e with | .normal => K env' ds' | e => Q e env' ds') env ds w)
    (hk : ∀ env ds w, env.length = n → K env ds w → WPM P n b Q env ds w) : WPM P n c0 Q env ds w := hc ▸ WPM.seq h hk
theorem pm_block {c0 c : Code} {id : Nat} (hc : c0 = .block id c) (h : WPM P n c (fun e env' ds' => match e with | .exit i => (match Nat.beq i id with | true => Q .normal env' ds' | false => Q (.exit i) env' ds') | e => Q e env' ds') env ds w) : WPM P n c0 Q env ds w :=
  hc ▸ WPM.block h
end
end Go.W
namespace Go.W
open Go
def bytesOf (xs : List Int) : Bs := xs.map fun n => UInt8.ofNat n.toNat
def intsOf (s : Bs) : List Int := s.map fun b => (b.toNat : Int)
@[simp] theorem bytesOf_intsOf (s : Bs) : bytesOf (intsOf s) = s := by
  induction s with
  | nil => rfl
  | cons b s ih => simp only [bytesOf, intsOf, List.map_cons, List.cons.injEq] at ih ⊢; exact ⟨by simp, ih⟩
theorem rows_int (k : IntKind) (xs : List Int) : rows (.i k) xs = xs.map (Value.int k) := by
  induction xs with
  | nil => rfl
  | cons x xs ih => rw [rows] at ih ⊢; rw [List.flatMap_cons, ih]; simp [KC]
@[simp] theorem intsOf_length (s : Bs) : (intsOf s).length = s.length := by simp [intsOf]
@[simp] theorem bytesOf_length (s : List Int) : (bytesOf s).length = s.length := by simp [bytesOf]
@[simp] theorem intsOf_append (s t : Bs) : intsOf (s ++ t) = intsOf s ++ intsOf t := by simp [intsOf]
@[simp] theorem bytesOf_append (s t : List Int) : bytesOf (s ++ t) = bytesOf s ++ bytesOf t := by simp [bytesOf]
@[simp] theorem intsOf_nil : intsOf [] = [] := rfl
@[simp] theorem bytesOf_nil : bytesOf [] = [] := rfl
theorem intsOf_get {s : Bs} {i : Nat} {b : UInt8} (h : s[i]? = some b) : (intsOf s)[i]? = some (b.toNat : Int) := by simp [intsOf, h]
def rdS (s : Sl) (k : Kd) (xs : List (KT k)) (w : World) : Prop :=
  s.len = xs.length ∧ s.len ≤ s.cap ∧ (s.len = 0 ∨ ∃ (b : Nat) (pre post : List Value) (e : TypeId) (fr : Nat × Nat), s.a = some ⟨b, pre.length, none⟩ ∧ w.heap[b]? = some (.cells (pre ++ rows k xs ++ post).toArray e fr))
def cut (s : Sl) (k : Kd) (l h : Nat) : Sl := ⟨if s.cap = l then s.a else s.a.map (·.add (l * wd k)), h - l, s.cap - l⟩
section
variable {P : Program} {o : Fix} {Γ Δ : List Assn} {w : World}
theorem SH.rd {s : Sl} {k : Kd} {xs : List (KT k)} (h : SH o Γ w) [hr : RdS s k xs Γ] : rdS s k xs w := hr.rd h
theorem rdS.cut {s : Sl} {k : Kd} {xs : List (KT k)} {l m : Nat} (h : rdS s k xs w) (h1 : l ≤ m) (h2 : m ≤ xs.length) : rdS (cut s k l m) k ((xs.drop l).take (m - l)) w := by
  obtain ⟨g1, g2, g3⟩ := h
  refine ⟨by simp [W.cut]; omega, by simp [W.cut]; omega, ?_⟩
  by_cases e : m - l = 0
  · left; simp [W.cut, e]
  · rcases g3 with g3 | ⟨b, pre, post, e, fr, ha, hb⟩
    · omega
    · right
      have hne : s.cap ≠ l := by omega
      refine ⟨b, pre ++ rows k (xs.take l), rows k (xs.drop m) ++ post, e, fr, ?_, ?_⟩
      · simp [W.cut, hne, ha, rows_len, Nat.min_eq_left (show l ≤ xs.length by omega), Addr.add_mid]
      · rw [hb]
        have e2 : rows k xs = rows k (xs.take l) ++ (rows k ((xs.drop l).take (m - l)) ++ rows k (xs.drop m)) := by
          rw [← rows_append, ← rows_append]
          congr 1
          have : xs.drop m = (xs.drop l).drop (m - l) := by rw [List.drop_drop]; congr 1; omega
          rw [this, List.take_append_drop, List.take_append_drop]
        rw [e2]; simp
theorem slc_ok {t te : TypeId} {k : Kd} {s : Sl} {lo hi : Option Int} {K : Sl → World → Prop} [ht : TySl P t te] [hk : TyK P te k] (h0 : 0 ≤ lo.getD 0) (h1 : lo.getD 0 ≤ hi.getD s.len) (h2 : hi.getD s.len ≤ s.cap)
    (hK : K (cut s k (lo.getD 0).toNat (hi.getD s.len).toNat) w) : slc P t s lo hi K w := by
  obtain ⟨d, inf, hu, hi', hr, hs, _⟩ := hk.spec
  obtain ⟨sa, sl, sc⟩ := s
  have hsz : (sizeOf te).run P w = .ok (wd k) w := by simp [sizeOf, typeInfo, hi', hs]
  refine ⟨_, ?_, hK⟩
  cases lo <;> cases hi <;> simp only [Option.getD_none, Option.getD_some] at h0 h1 h2 ⊢
  · simp [Instr.sliceAt, run_underlying ht.ok, Instr.slice, Instr.sliceBounds, hsz, KV, cut]
  · rename_i j
    have hj : (j.toNat : Int) = j := Int.toNat_of_nonneg (by omega)
    simp [Instr.sliceAt, run_underlying ht.ok, Instr.slice, Instr.sliceBounds, run_sliceBound w _ j _ _ (by omega) h2, hsz, KV, cut]
  · rename_i i
    simp [Instr.sliceAt, run_underlying ht.ok, Instr.slice, Instr.sliceBounds, run_sliceBound w _ i _ _ h0 h1, hsz, KV, cut]
  · rename_i i j
    have hj : (j.toNat : Int) = j := Int.toNat_of_nonneg (by omega)
    simp [Instr.sliceAt, run_underlying ht.ok, Instr.slice, Instr.sliceBounds, run_sliceBound w _ j _ _ (by omega) h2, run_sliceBound w _ i j.toNat _ h0 (by omega), hsz, KV, cut]
theorem bytes_extract (s : Bs) (l m : Nat) : (⟨s.toArray⟩ : ByteArray).extract l m = ⟨((s.drop l).take (m - l)).toArray⟩ := by
  apply ByteArray.ext
  rw [ByteArray.data_extract]
  apply Array.toList_inj.1
  simp
theorem sls_ok {t : TypeId} {s : Bs} {lo hi : Option Int} {K : Bs → World → Prop} [ht : TyD P t .string] (h0 : 0 ≤ lo.getD 0) (h1 : lo.getD 0 ≤ hi.getD s.length) (h2 : hi.getD s.length ≤ s.length)
    (hK : K ((s.drop (lo.getD 0).toNat).take ((hi.getD s.length).toNat - (lo.getD 0).toNat)) w) : sls P t s lo hi K w := by
  refine ⟨_, ?_, hK⟩
  have hsz : (⟨s.toArray⟩ : ByteArray).size = s.length := by simp [ByteArray.size]
  cases lo <;> cases hi <;> simp only [Option.getD_none, Option.getD_some] at h0 h1 h2 ⊢
  · simp [Instr.sliceAt, run_underlying ht.ok, Instr.slice, Instr.sliceBounds, hsz, KV, bytes_extract]
  · rename_i j
    simp [Instr.sliceAt, run_underlying ht.ok, Instr.slice, Instr.sliceBounds, hsz, run_sliceBound w _ j _ _ (show 0 ≤ j by omega) h2, KV, bytes_extract]
  · rename_i i
    simp [Instr.sliceAt, run_underlying ht.ok, Instr.slice, Instr.sliceBounds, hsz, run_sliceBound w _ i _ _ h0 h1, KV, bytes_extract]
  · rename_i i j
    simp [Instr.sliceAt, run_underlying ht.ok, Instr.slice, Instr.sliceBounds, hsz, run_sliceBound w _ j _ _ (show 0 ≤ j by omega) h2, run_sliceBound w _ i j.toNat _ h0 (by omega), KV, bytes_extract]
theorem sls_from {t : TypeId} {s : Bs} {i : Int} {K : Bs → World → Prop} [ht : TyD P t .string] (h0 : 0 ≤ i) (h1 : i ≤ s.length) (hK : K (s.drop i.toNat) w) : sls P t s (some i) none K w := by
  refine sls_ok h0 h1 (by simp) ?_
  simpa [List.take_of_length_le] using hK
theorem sls_to {t : TypeId} {s : Bs} {i : Int} {K : Bs → World → Prop} [ht : TyD P t .string] (h0 : 0 ≤ i) (h1 : i ≤ s.length) (hK : K (s.take i.toNat) w) : sls P t s none (some i) K w := by
  refine sls_ok (by simp) (by simpa using h0) h1 ?_
  simpa using hK
theorem ixs_ok {t : TypeId} {s : Bs} {i : Int} {b : UInt8} {K : Int → World → Prop} [ht : TyD P t .string] (h0 : 0 ≤ i) (hb : s[i.toNat]? = some b) (hK : K (b.toNat : Int) w) : ixs P t s i K w := by
  refine ⟨_, ?_, hK⟩
  obtain ⟨h, e⟩ := List.getElem?_eq_some_iff.1 hb
  have hg : (⟨s.toArray⟩ : ByteArray)[i.toNat]? = some b := by
    have hsz : i.toNat < (⟨s.toArray⟩ : ByteArray).size := by simpa [ByteArray.size] using h
    rw [getElem?_pos (c := (⟨s.toArray⟩ : ByteArray)) (i := i.toNat) (h := hsz), ← e]; rfl
  simp [Instr.index, run_underlying ht.ok, asIntOf, h0, hg, KV]
theorem conv_bs {ts te t : TypeId} {s : Sl} {xs : List Int} {K : Bs → World → Prop} [hs : TySl P ts te] [he : TyD P te (.int .u8)] [ht : TyD P t .string] (hr : rdS s (.i .u8) xs w) (hK : K (bytesOf xs) w) :
    mrd P (convert ts t (.slice s.a s.len s.cap)) .s K w := by
  refine ⟨_, ?_, hK⟩
  obtain ⟨sa, sl, sc⟩ := s
  obtain ⟨h1, h2, h3⟩ := hr
  simp only at h1 h2 h3 ⊢
  by_cases h0 : sl = 0
  · have : xs = [] := List.length_eq_zero_iff.1 (by rw [← h1]; exact h0)
    subst this h0
    cases sa with
    | none => rw [run_convert_bytes_nil w ts te hs.ok he.ok 0 sc t ht.ok]; rfl
    | some a =>
      rw [run_convert_bytes_string w ts t te (some a) 0 sc hs.ok he.ok ht.ok]
      have := run_bytesToString (P := P) w a 0 sc [] (by simp [loadCells, loadCellsFrom])
      rw [this]; rfl
  · rcases h3 with h3 | ⟨b, pre, post, e, fr, rfl, hb⟩
    · exact absurd h3 h0
    · rw [run_convert_bytes_arg w ts te hs.ok he.ok b pre.length sl sc xs h1.symm ?_ t ht.ok]
      · simp [strOfNums, KV, bytesOf]
      · intro i hi
        have hlt : i < xs.length := by omega
        have := rangeAt_cells (w := w) hb rfl i (.int .u8 xs[i]) (by
          rw [rows_int, List.getElem?_map, List.getElem?_eq_getElem hlt]; rfl)
        rw [this]; simp [List.getD_eq_getElem?_getD, List.getElem?_eq_getElem hlt]
abbrev arS (a : Addr) (n : Nat) : Sl := ⟨some a, n, n⟩
theorem ixa_arr {t te : TypeId} {k : Kd} {n : Nat} {b : Addr} {i : Int} {K : Addr → World → Prop} [ht : TyD P t (.array n te)] [hk : TyK P te k] (hs : b.spot = none) (h0 : 0 ≤ i) (h1 : i < n) (hK : ∀ a, EA (arS b n) k i.toNat a → K a w) :
    ixa P t (.pointer (some b)) i K w := by
  obtain ⟨d, inf, hu, hi, hr, hs', _⟩ := hk.spec
  obtain ⟨bb, off, spot⟩ := b
  simp only at hs; subst hs
  refine ⟨⟨bb, off + i.toNat * wd k, none⟩, ?_, hK _ ⟨bb, off, rfl, rfl⟩⟩
  simp [Instr.indexAt, asIntOf, run_underlying ht.ok, Instr.sureAddr, h0, h1, sizeOf, typeInfo, hi, hs', KV, Addr.add_mid]
theorem alo_arr {t te : TypeId} {k : Kd} {n : Nat} {z : KT k} {K : Addr → World → Prop} (h : SH o Γ w) [ht : TyD P t (.array n te)] [hk : TyK P te k] (hz : (P.info? t).bind (·.zero) = some (.agg (rows k (List.replicate n z)).toArray))
    (hK : ∀ a w', a.spot = none → SH o (slO (arS a n) t k (List.replicate n z) :: Γ) w' → K a w') : alo P t K w := by
  cases hi : P.info? t with
  | none => simp [hi] at hz
  | some i =>
    simp [hi] at hz
    refine ⟨⟨w.heap.size, 0, none⟩, { w with heap := w.heap.push (.cells (rows k (List.replicate n z)).toArray t) }, by simp [Instr.alloc, zeroValue, typeInfo, program, hi, hz, newVar, newRow, newObj, Sem.run, KV, Value.cells], hK _ _ rfl ?_⟩
    have := h.row (t := t) (k := k) (xs := List.replicate n z) (post := []) (c := n) (w' := { w with heap := w.heap.push (.cells (rows k (List.replicate n z)).toArray t) }) (by simp [cellsO]) rfl rfl (by simp) (by simp)
    simpa [arS] using this
theorem slc_arr {t te : TypeId} {k : Kd} {n : Nat} {b : Addr} {hi : Option Value} {m : Nat} {K : Sl → World → Prop} [ht : TyD P t (.array n te)] [hk : TyK P te k] (hm : hi = none ∧ m = n ∨ ∃ i, hi = some (.int .i64 i) ∧ 0 ≤ i ∧ i ≤ n ∧ m = i.toNat)
    (hK : K ⟨some b, m, n⟩ w) (hs : b.spot = none) : mrd P (Instr.sliceAt t (.pointer (some b)) none hi none) .sl K w := by
  obtain ⟨d, inf, hu, hi', hr, hs', _⟩ := hk.spec
  have hsz : (sizeOf te).run P w = .ok (wd k) w := by simp [sizeOf, typeInfo, hi', hs']
  have hadd : b.add 0 = b := by cases b; simp_all [Addr.add]
  refine ⟨_, ?_, hK⟩
  rcases hm with ⟨rfl, rfl⟩ | ⟨i, rfl, h0, h1, rfl⟩
  · simp [Instr.sliceAt, run_underlying ht.ok, Instr.sureAddr, Instr.sliceBounds, hsz, KV, hadd]
  · simp [Instr.sliceAt, run_underlying ht.ok, Instr.sureAddr, Instr.sliceBounds, run_sliceBound w _ i _ _ h0 h1, hsz, KV, hadd]
end
theorem RdS.cut {s : Sl} {k : Kd} {xs : List (KT k)} {Γ : List Assn} {l m : Nat} (hr : RdS s k xs Γ) (h1 : l ≤ m) (h2 : m ≤ xs.length) : RdS (W.cut s k l m) k ((xs.drop l).take (m - l)) Γ :=
  ⟨fun h => (show rdS s k xs _ from hr.rd h).cut h1 h2⟩
theorem gete {α : Type} {s : List α} {k : Nat} (h : k < s.length) : s[((k : Nat) : Int).toNat]? = some s[k] := by
  rw [Int.toNat_natCast]; exact List.getElem?_eq_getElem h
end Go.W
namespace Go.W
open Go
abbrev kBld : Kd := .st [.p, .sl]
def bldA (tB tE : TypeId) (b : Addr) (bs : Bs) : Assn :=
  exA fun q : Option Addr × Sl => andA ((q.1 = none ∨ q.1 = some b) ∧ (q.2.a = none ∨ ∃ g, q.2.a = some ⟨g, 0, none⟩ ∧ 0 < q.2.cap))
    (starA [vr b tB kBld (q.1, q.2, ()), slO q.2 tE (.i .u8) (intsOf bs)])
section
variable {P : Program} {o : Fix} {Γ Δ : List Assn} {w : World}
theorem bld_new {tB tE : TypeId} {b : Addr} (h : SH o (vr b tB kBld (none, ⟨none, 0, 0⟩, ()) :: Γ) w) : SH o (bldA tB tE b [] :: Γ) w := by
  refine SH.ex.2 ⟨(none, ⟨none, 0, 0⟩), SH.and.2 ⟨⟨.inl rfl, .inl rfl⟩, SH.star.2 ?_⟩⟩
  have := h.nilS tE (.i .u8)
  exact this.swap
theorem bld_open {tB tE : TypeId} {b : Addr} {bs : Bs} : SH o (bldA tB tE b bs :: Γ) w ↔ ∃ (q : Option Addr) (x : Sl), (q = none ∨ q = some b) ∧ (x.a = none ∨ ∃ g, x.a = some ⟨g, 0, none⟩ ∧ 0 < x.cap) ∧
    SH o (vr b tB kBld (q, x, ()) :: slO x tE (.i .u8) (intsOf bs) :: Γ) w := by
  constructor
  · intro h
    obtain ⟨q, h⟩ := SH.ex.1 h
    obtain ⟨⟨h1, h2⟩, h3⟩ := SH.and.1 h
    exact ⟨q.1, q.2, h1, h2, SH.star.1 h3⟩
  · rintro ⟨q, x, h1, h2, h3⟩
    exact SH.ex.2 ⟨(q, x), SH.and.2 ⟨⟨h1, h2⟩, SH.star.2 h3⟩⟩
theorem app_str {t tx ty te : TypeId} {s : Sl} {bs : Bs} {xs : List Int} {K : Sl → World → Prop} (h : SH o Γ w) [hr : HasS s te (.i .u8) xs Γ Δ] [ht : TySl P t te] [htx : TyD P tx .string] [hk : TyK P te (.i .u8)] [hE : TyE P te (.i .u8)]
    (hb : xs.length + bs.length ≤ 274877906944) (hK : ∀ r w', Onto s r → SH o (slO r te (.i .u8) (xs ++ intsOf bs) :: Δ) w' → K r w') : app P #[t, tx] ty (Sl.v s) (.string ⟨bs.toArray⟩) K w := by
  refine app_core (k := .i .u8) (ys := intsOf bs) h (by simpa using hb) ?_ hK
  have := Src.ofString (P := P) (w := w) htx.ok ⟨bs.toArray⟩
  have e1 : (⟨bs.toArray⟩ : ByteArray).size = (intsOf bs).length := by simp [ByteArray.size]
  have e2 : byteCells ⟨bs.toArray⟩ = rows (.i .u8) (intsOf bs) := by rw [rows_int]; simp [byteCells, intsOf]
  rw [e1, e2] at this
  exact this
theorem meq_ptr_nil {t e : TypeId} {p : Option Addr} {K : Bool → World → Prop} [ht : TyD P t (.pointer e)] (hK : K p.isNone w) : meq P .eql t (.pointer p) (.pointer none) K w := by
  refine ⟨_, ?_, hK⟩
  have h1 : P.underlying t = some (.pointer (P.pointee t)) := by simp [Program.pointee, ht.ok]
  simp [binOp, run_equal_pointer_nil w t p h1, KV]
theorem mne_ptr_nil {t e : TypeId} {p : Option Addr} {K : Bool → World → Prop} [ht : TyD P t (.pointer e)] (hK : K p.isSome w) : meq P .neq t (.pointer p) (.pointer none) K w := by
  refine ⟨_, ?_, hK⟩
  have h1 : P.underlying t = some (.pointer (P.pointee t)) := by simp [Program.pointee, ht.ok]
  simp [binOp, run_equal_pointer_nil w t p h1, KV]
theorem mne_ptr_same {t e : TypeId} {a : Addr} {K : Bool → World → Prop} [ht : TyD P t (.pointer e)] (he : (P.info? e).isSome = true) (hK : K false w) : meq P .neq t (.pointer (some a)) (.pointer (some a)) K w := by
  obtain ⟨j, hj⟩ := Option.isSome_iff_exists.1 he
  exact ⟨_, Lib.run_neq_ptr_same w a ht.ok hj, hK⟩
theorem unsafe_str {tp ti ts te : TypeId} {x : Sl} {bs : Bs} {K : Bs → World → Prop} (h : SH o (slO x te (.i .u8) (intsOf bs) :: Γ) w) (hx : x.a = none ∨ ∃ g, x.a = some ⟨g, 0, none⟩ ∧ 0 < x.cap)
    [hp : TyD P tp (.pointer te)] (hc : P.cellsOf te = 1) (hb : bs.length ≤ 9223372036854775807) (hK : ∀ w', SH o Γ w' → K bs w') :
    mop P (Builtin.unsafeString_ #[tp, ti] ts #[.pointer x.a, .int .i64 (x.len : Int)]) .s K w := by
  have hlen : x.len = bs.length := by have := h.len (s := x); simpa using this
  by_cases h0 : bs = []
  · subst h0
    simp only [List.length_nil] at hlen
    rw [hlen]
    exact ⟨[], w, by rw [show ((0 : Nat) : Int) = 0 from rfl, Lib.run_unsafeString_none]; rfl, hK w h.drop⟩
  · obtain ⟨π, hh, h1, h2, h3, h4, h5, f, r, hd, rfl, ⟨ha1, ha2, ha3⟩, hs⟩ := h
    rcases ha3 with ⟨e1, e2, rfl⟩ | ⟨b, pre, post, e1, e2, rfl⟩
    · have := List.length_pos_iff.2 h0; omega
    · rcases hx with hx | ⟨g, hx, _⟩
      · rw [hx] at e1; cases e1
      · rw [hx] at e1
        simp only [Option.some.injEq, Addr.mk.injEq] at e1
        obtain ⟨rfl, hpre, _⟩ := e1
        have hpre : pre = [] := List.length_eq_zero_iff.1 hpre.symm
        subst hpre
        have hS : SH o (objA g (cellsO ([] ++ rows (.i .u8) (intsOf bs) ++ post) te) :: Γ) w := ⟨π, _, h1, h2, h3, h4, h5, _, r, hd, rfl, rfl, hs⟩
        have hg := hS.heap
        have hrl : (rows (.i .u8) (intsOf bs)).length = bs.length := by rw [rows_len]; show (intsOf bs).length * 1 = _; simp
        refine ⟨bs, w.freeze ⟨g, 0, none⟩ bs.length, ?_, hK _ ?_⟩
        · rw [hx, hlen]
          refine Lib.run_unsafeString_row w tp ti ts te hp.ok hc g (rows (.i .u8) (intsOf bs) ++ post).length (by unfold World.shape?; rw [hg]; rfl) bs h0 (by rw [List.length_append, hrl]; omega) hb ?_
          intro j b hj
          have := rangeAt_cells (w := w) (off := 0) (pre := []) (mid := rows (.i .u8) (intsOf bs)) hg rfl j (.int .u8 b.toNat) (by rw [rows_int, List.getElem?_map, intsOf_get hj]; rfl)
          rw [Addr.add_mid]; exact this
        · have hlt : g < w.heap.size := (Array.getElem?_eq_some_iff.1 hg).1
          have hn : bs.length ≠ 0 := by simpa using h0
          refine (hS.put (.cells (rows (.i .u8) (intsOf bs) ++ post).toArray te (0, bs.length)) (w' := w.freeze ⟨g, 0, none⟩ bs.length) ?_ ?_ ?_).drop
          · intro c
            unfold World.freeze
            rw [if_neg hn]
            simp only [Array.getElem?_modify]
            by_cases e : c = g
            · subst e; simp [hg, cellsO]
            · simp [e, Ne.symm e]
          · unfold World.freeze; rw [if_neg hn]
          · unfold World.freeze; rw [if_neg hn]
theorem slice_data {ats : Array TypeId} {t : TypeId} {x : Sl} {K : Option Addr → World → Prop} (hx : x.a = none ∨ ∃ g, x.a = some ⟨g, 0, none⟩ ∧ 0 < x.cap) (hK : K x.a w) : mop P (Builtin.unsafeSliceData_ ats t #[.slice x.a x.len x.cap]) .p K w := by
  rcases hx with hx | ⟨g, hx, hc⟩
  · exact ⟨none, w, by rw [hx, Lib.run_unsafeSliceData_nil]; rfl, hx ▸ hK⟩
  · exact ⟨some ⟨g, 0, none⟩, w, by rw [hx, Lib.run_unsafeSliceData_row _ _ _ _ _ _ (by omega)]; rfl, hx ▸ hK⟩
theorem to_unsafe {ts td te : TypeId} {a : Addr} {t : TypeId} {k : Kd} {x : KT k} {K : Value → World → Prop} (h : SH o Γ w) [hr : RdV a t k x Γ] [hs : TyD P ts (.pointer te)] (hd : P.underlying td = some .unsafePointer) (hte : (match P.info? te with | some j => !(Nat.beq j.size 0) | none => false) = true) (hw : 0 < wd k)
    (hK : K (.pointer (some a)) w) : mrd P (convert ts td (.pointer (some a))) .v K w := by
  obtain ⟨b, rfl, hb⟩ := hr.rd h
  obtain ⟨j, hj, hj2⟩ : ∃ j, P.info? te = some j ∧ j.size ≠ 0 := by
    split at hte
    · rename_i j hj; exact ⟨j, hj, by intro e; simp [e] at hte⟩
    · cases hte
  exact ⟨_, Lib.run_to_unsafe w (e := t) (cells := wd k) ⟨b, 0, none⟩ hs.ok hd hj hj2 (by simp [World.shape?, hb, KC_len]) hw, hK⟩
theorem from_unsafe {ts td te : TypeId} {a : Addr} {t : TypeId} {k : Kd} {x : KT k} {K : Option Addr → World → Prop} (h : SH o Γ w) [hr : RdV a t k x Γ] (hs : P.underlying ts = some .unsafePointer) [hd : TyD P td (.pointer te)] (hte : (P.info? te).isSome = true)
    (hl : liesAt P P.depth t (wd k / P.cellsOf t) 0 te 1 = true) (hK : K (some a) w) : mrd P (convert ts td (.pointer (some a))) .p K w := by
  obtain ⟨b, rfl, hb⟩ := hr.rd h
  obtain ⟨j, hj⟩ := Option.isSome_iff_exists.1 hte
  exact ⟨_, Lib.run_from_unsafe w (e := t) (cells := wd k) ⟨b, 0, none⟩ hs hd.ok hj (by simp [World.shape?, hb, KC_len]) hl, hK⟩
end
end Go.W
namespace Go.W
open Go
theorem fill_sl {k : Kd} (ht : k.noTup = true) : ∀ (xs : List (KT k)) (i : Nat) (cells : List Value), (∀ x ∈ xs, okV k x) → (i + xs.length) * wd k ≤ cells.length →
    Instr.fill (fun i => some (i * wd k, wd k)) cells.toArray (bslL k i xs) = some (cells.take (i * wd k) ++ (rows k xs ++ cells.drop ((i + xs.length) * wd k))).toArray
  | [], i, cells, _, _ => by simp [bslL, Instr.fill, rows]
  | x :: xs, i, cells, hok, hl => by
    simp only [List.length_cons] at hl
    have hi : (i + 1) * wd k ≤ cells.length := Nat.le_trans (Nat.mul_le_mul_right _ (by omega)) hl
    have hi' : i * wd k + wd k ≤ cells.length := by rw [Nat.add_mul] at hi; omega
    have hc := cells_KV ht (hok x (List.mem_cons_self ..))
    have hs : (KV k x).cells.size = wd k := by rw [← Array.length_toList, hc, KC_len]
    unfold bslL Instr.fill
    simp only []
    rw [if_neg (by rw [hs]; simp; omega)]
    have hf := fill_fold (KC k x) (i * wd k) cells.toArray 0 (by rw [KC_len]; simpa using hi')
    simp only [Nat.add_zero] at hf
    have e1 : (KV k x).cells.zipIdx.foldl (fun (cs : Array Value) (y : Value × Nat) => cs.setIfInBounds (i * wd k + y.2) y.1) cells.toArray = (cells.take (i * wd k) ++ (KC k x ++ cells.drop (i * wd k + wd k))).toArray := by
      apply Array.toList_inj.1
      rw [← Array.foldl_toList, Array.toList_zipIdx, hc, hf, KC_len]
    have ih := fill_sl ht xs (i + 1) (cells.take (i * wd k) ++ (KC k x ++ cells.drop (i * wd k + wd k))) (fun y hy => hok y (List.mem_cons_of_mem _ hy)) (by
      simp only [List.length_append, List.length_take, KC_len, List.length_drop]
      rw [Nat.add_mul, Nat.add_mul] at *
      have : (i + (xs.length + 1)) * wd k = i * wd k + xs.length * wd k + wd k := by rw [Nat.add_mul, Nat.add_mul]; omega
      omega)
    have e2 : ∀ (f : Array Value), f = (cells.take (i * wd k) ++ (KC k x ++ cells.drop (i * wd k + wd k))).toArray → Instr.fill (fun i => some (i * wd k, wd k)) f (bslL k (i + 1) xs) = some (cells.take (i * wd k) ++ (rows k (x :: xs) ++ cells.drop ((i + (xs.length + 1)) * wd k))).toArray := by
      rintro f rfl
      rw [ih]
      have l1 : (cells.take (i * wd k)).length = i * wd k := by rw [List.length_take]; omega
      have e3 : (i + 1) * wd k = (cells.take (i * wd k) ++ KC k x).length := by rw [List.length_append, l1, KC_len, Nat.add_mul]; omega
      have e4 : (i + 1 + xs.length) * wd k = (cells.take (i * wd k) ++ KC k x).length + xs.length * wd k := by rw [← e3, ← Nat.add_mul]
      have e5 : cells.take (i * wd k) ++ (KC k x ++ cells.drop (i * wd k + wd k)) = (cells.take (i * wd k) ++ KC k x) ++ cells.drop (i * wd k + wd k) := by simp
      rw [e4, e3, e5, List.take_left' rfl, List.drop_length_add_append, List.drop_drop]
      congr 2
      simp only [rows, List.flatMap_cons, List.append_assoc]
      congr 4
      rw [show i + (xs.length + 1) = i + 1 + xs.length by omega, Nat.add_mul (i + 1), Nat.add_mul i]; omega
    exact e2 _ e1
section
variable {P : Program} {o : Fix} {Γ Δ : List Assn} {w : World}
theorem bsl_ok {t te : TypeId} {k : Kd} {xs : List (KT k)} {K : Sl → World → Prop} (h : SH o Γ w) [ht : TySl P t te] [hk : TyK P te k] [hE : TyE P te k] (hK : ∀ r w', SH o (slO r te k xs :: Γ) w' → K r w')
    (hok : ∀ x ∈ xs, okV k x := by exact fun x _ => okV_plain rfl x) (hn : xs.length * wd k ≤ 16777216 := by exact Nat.le_of_ble_eq_true rfl) : bsl P t k xs K w := by
  obtain ⟨i, z, hi, hz, hzs, hby⟩ := hE.spec
  obtain ⟨d, i', hu', hi', hrw, hsz, hnt⟩ := hk.spec
  rw [hi] at hi'; cases hi'
  have hf : ∀ C : Array Value, C.size = xs.length * wd k → Instr.fill (fun i => some (i * wd k, wd k)) C (bslL k 0 xs) = some (rows k xs).toArray := by
    intro C hC
    have hf := fill_sl hnt xs 0 C.toList hok (by simp [hC])
    simp only [Nat.zero_mul, List.take_zero, List.nil_append, Nat.zero_add, Array.toArray_toList] at hf
    rwa [List.drop_eq_nil_of_le (by simp [hC]), List.append_nil] at hf
  refine ⟨⟨some ⟨w.heap.size, 0, none⟩, xs.length, xs.length⟩, { w with heap := w.heap.push (.cells (rows k xs).toArray te) }, ?_, hK _ _ ?_⟩
  · have hsz' : (sizeOf te).run P w = .ok (wd k) w := by simp [sizeOf, typeInfo, hi, hsz]
    have hn' : ¬ 2 ^ 24 < xs.length * wd k := Nat.not_lt.2 hn
    have hzv : (zeroValue te).run P w = .ok z w := by simp [zeroValue, typeInfo, program, Sem.run, hi, hz]
    by_cases e : xs.length * wd k = 0
    · have hf' := hf ((Array.range (xs.length * wd k)).map fun x => default) (by simp)
      simp [Instr.buildSlice, run_underlying ht.ok, hsz', if_neg hn', e, KV]
      rw [e] at hf'
      rw [hf']; simp [newRow, newObj]; rfl
    · have hf' := hf ((Array.range (xs.length * wd k)).map fun x => z.cells[x % z.cells.size]!) (by simp)
      simp [Instr.buildSlice, run_underlying ht.ok, hsz', if_neg hn', e, KV, hzv, hf', newRow, newObj, Sem.run]
  · have := h.row (t := te) (k := k) (xs := xs) (post := []) (c := xs.length) (w' := { w with heap := w.heap.push (.cells (rows k xs).toArray te) }) (by simp [cellsO]) rfl rfl (Nat.le_refl _) (by simp)
    simpa using this
theorem mst_var {a : Addr} {t t' : TypeId} {k : Kd} {x : KT k} {v : Value} {K : World → Prop} (h : SH o Γ w) [hr : RdV a t k x Γ] [TyK P t' k] (hK : K w) (hv : KV k x = v := by rfl) :
    mst P (Instr.loadAt t' (.pointer (some a))) v K w := by
  have : ld P t' a k (fun y w' => w' = w ∧ y = x) w := ld_var h ⟨rfl, rfl⟩
  obtain ⟨y, hy, _, rfl⟩ := this
  exact ⟨by rw [hy, hv], hK⟩
theorem mst_sls {t : TypeId} {s : Bs} {lo hi : Option Int} {v : Value} {K : World → Prop} [ht : TyD P t .string] (h0 : 0 ≤ lo.getD 0) (h1 : lo.getD 0 ≤ hi.getD s.length) (h2 : hi.getD s.length ≤ s.length)
    (hK : K w) (hv : Value.string ⟨((s.drop (lo.getD 0).toNat).take ((hi.getD s.length).toNat - (lo.getD 0).toNat)).toArray⟩ = v := by rfl) :
    mst P (Instr.sliceAt t (.string ⟨s.toArray⟩) (lo.map (.int .i64)) (hi.map (.int .i64)) none) v K w := by
  have : sls P t s lo hi (fun y w' => w' = w ∧ y = (s.drop (lo.getD 0).toNat).take ((hi.getD s.length).toNat - (lo.getD 0).toNat)) w := sls_ok h0 h1 h2 ⟨rfl, rfl⟩
  obtain ⟨y, hy, _, rfl⟩ := this
  exact ⟨by rw [hy, ← hv]; rfl, hK⟩
theorem mst_from {t : TypeId} {s : Bs} {i : Int} {K : World → Prop} [ht : TyD P t .string] (h0 : 0 ≤ i) (h1 : i ≤ s.length) (hK : K w) :
    mst P (Instr.sliceAt t (.string ⟨s.toArray⟩) (some (.int .i64 i)) none none) (.string ⟨(s.drop i.toNat).toArray⟩) K w := by
  have := mst_sls (P := P) (t := t) (s := s) (lo := some i) (hi := none) h0 h1 (by simp) hK (v := .string ⟨(s.drop i.toNat).toArray⟩) (by simp [List.take_of_length_le])
  exact this
end
end Go.W
