/- Contracts of functions of the program, proved on their short texts. No condition. -/
import Derived.Test.YtegjokkkdkaphaaGreatDoorTextA
import Derived.Test.YtegjokkkdkaphaaGreatDoorTextB
import Derived.Test.YtegjokkkdkaphaaGreatDoorTextC
import Derived.Test.YtegjokkkdkaphaaGreatDoorTextD
import Derived.Test.YtegjokkkdkaphaaGreatDoorTextE
import Derived.Test.YtegjokkkdkaphaaGreatDoorTextF
import Derived.Test.YtegjokkkdkaphaaGreatDoorTextG
import Derived.Test.YtegjokkkdkaphaaGreatDoorTextH
import Derived.Test.YtegjokkkdkaphaaGreatDoorTextI
import Derived.Test.YtegjokkkdkaphaaGreatDoorTextJ
import Derived.Test.YtegjokkkdkaphaaGreatDoorTextK
set_option linter.unusedVariables false
set_option linter.unusedSimpArgs false
/- Contracts: builders of strings; numbers and texts as bytes. -/
namespace Go.Proofs.YtegjokkkdkaphaaGreatDoor
open Go Go.W
set_option maxRecDepth 100000

abbrev bld (b : Addr) (bs : Bs) : Assn := bldA t_strings_Builder t_uint8 b bs

section
variable {o : Fix} {Γ Δ : List Assn} {w : World}

theorem NoEscape_ok {R : Value → World → Prop} {v : Value} (hR : R v w) : mcall P n_internal_abi_NoEscape [v] .v R w := by
  refine .ext v w ?_ hR
  rfl

theorem copyCheck_ok {R : Unit → World → Prop} {b : Addr} {q : Option Addr} {x : Sl} (hq : q = none ∨ q = some b) (h : SH o (vr b t_strings_Builder kBld (q, x, ()) :: Γ) w)
    (hR : ∀ w', SH o (vr b t_strings_Builder kBld (some b, x, ()) :: Γ) w' → R () w') : mcall P n_strings_Builder_copyCheck [(.pointer (some b))] (.tup []) R w := by
  apply strings_Builder_copyCheck_call
  refine mnil_ok ?_
  refine ld_fld0 h ?_
  refine meq_ptr_nil ?_
  refine mif_ok (fun h1 => ?_) (fun h1 => ?_)
  · refine to_unsafe h (by kernel_rfl) (by kernel_rfl) (by decide) ?_
    refine NoEscape_ok ?_
    refine from_unsafe h (by kernel_rfl) (by kernel_rfl) (by kernel_rfl) ?_
    refine mnil_ok ?_
    refine sto_fld0 h fun w h => ?_
    exact hR w h
  · rcases hq with rfl | rfl
    · cases h1
    · refine mnil_ok ?_
      refine ld_fld0 h ?_
      refine mne_ptr_same (by kernel_rfl) ?_
      exact hR w h

theorem WriteString_ok {R : (Int × Value × Unit) → World → Prop} {b : Addr} {bs s : Bs} (h : SH o Γ w) [hb : Has (bld b) bs Γ Δ] (hl : bs.length + s.length ≤ 274877906944)
    (hR : ∀ r w', SH o (bld b (bs ++ s) :: Δ) w' → R r w') : mcall P n_strings_Builder_WriteString [(.pointer (some b)), (.string ⟨s.toArray⟩)] (.tup [I, .v]) R w := by
  apply strings_Builder_WriteString_call
  obtain ⟨q, x, hq, hx, h⟩ := bld_open.1 (SH.take (f := bld b) h)
  refine copyCheck_ok hq h fun w h => ?_
  refine mnil_ok ?_
  refine ld_fld h ?_
  refine app_str h (by simpa using hl) fun r w hon h => ?_
  refine mnil_ok ?_
  refine sto_fld h fun w h => ?_
  refine hR _ w (bld_open.2 ⟨some b, r, .inr rfl, ?_, by simpa using h⟩)
  rcases hon with ⟨h1, h2⟩ | ⟨g, h1, h2⟩
  · rw [h1, h2]; exact hx
  · exact .inr ⟨g, h1, h2⟩

theorem BString_ok {R : Bs → World → Prop} {b : Addr} {bs : Bs} (h : SH o Γ w) [hb : Has (bld b) bs Γ Δ] (hl : bs.length ≤ 274877906944)
    (hR : ∀ w', SH o Δ w' → R bs w') : mcall P n_strings_Builder_String [(.pointer (some b))] .s R w := by
  apply strings_Builder_String_call
  obtain ⟨q, x, hq, hx, h⟩ := bld_open.1 (SH.take (f := bld b) h)
  refine mdraw_ok h fun w h => ?_
  refine mnil_ok ?_
  refine ld_fld h ?_
  refine mnil_ok ?_
  refine ld_fld h ?_
  refine slice_data hx ?_
  refine mst_fld h ?_
  refine unsafe_str h.drop hx (by kernel_rfl) (by omega) fun w h => ?_
  exact hR w h
end
end Go.Proofs.YtegjokkkdkaphaaGreatDoor
/- Contracts: varint. -/
namespace Go.Proofs.YtegjokkkdkaphaaGreatDoor
open Go Go.W
set_option maxRecDepth 100000

section
variable {o : Fix} {Γ Δ : List Assn} {w : World}

theorem Put_ok {R : Bs → World → Prop} {n : Int} (hn : I64 n) (h : SH o Γ w) (hR : ∀ w', SH o Γ w' → R (vput n) w') : mcall P n_varint_Put [(.int .i64 n)] .s R w := by
  apply varint_Put_call
  refine alo_arr (n := 10) (k := .i .u8) (z := (0 : Int)) h (by kernel_rfl) fun a w hs h => ?_
  unfold varint_Put_1
  rw [zig_text hn]
  refine loop_ok (fun (g : Bs × Nat) s w => s = ((g.2 : Int), (g.1.length : Int), ()) ∧ vput n = g.1 ++ put7 g.2 ∧ g.1.length + (put7 g.2).length ≤ 10 ∧
    ∃ rest : List Int, SH o (slO (arS a 10) t_arr10_uint8 (.i .u8) (intsOf g.1 ++ rest) :: Γ) w ∧ g.1.length + rest.length = 10) (fun g => g.2) ([], zig n)
    ⟨rfl, rfl, by have := vput_len hn; unfold vput at this; simpa using this, List.replicate 10 0, by simpa using h, by simp⟩ ?_
  rintro ⟨done, u⟩ _ w cont ⟨rfl, hv, hlen, rest, h, hr⟩ hc
  simp only at hv hlen h hr
  dsimp only
  obtain ⟨l, c, hl, _⟩ := put7_spec u
  have hpos : 1 ≤ (put7 u).length := by rw [hl]; simp
  refine mif_ok (fun h1 => ?_) (fun h1 => ?_)
  · have h1 : 128 ≤ u := by simp at h1; omega
    have e7 : put7 u = UInt8.ofNat (u % 128 + 128) :: put7 (u / 128) := by rw [put7]; rw [dif_neg (by omega)]
    refine ixa_arr hs (by omega) (by omega) fun e ea => ?_
    refine sto_el ea h (by simp; omega) fun w h => ?_
    simp only [ishr_u64_7]
    rw [w64_of (by omega) (by omega)]
    refine hc (done ++ [UInt8.ofNat (u % 128 + 128)], u / 128) _ w (by simp only; omega) ⟨by simp, by simp [hv, e7], ?_, rest.tail, ?_, ?_⟩
    · rw [e7] at hlen; simp at hlen ⊢; omega
    · have e8 : ior .u8 (wr8 (u : Int)) 128 = ((UInt8.ofNat (u % 128 + 128)).toNat : Int) := by rw [or128, toNat_ofNat8 (by omega)]
      have e9 := set_tail (intsOf done) rest (ior .u8 (wr8 (u : Int)) 128) (by rw [e7] at hlen; simp at hlen; omega)
      simp only [intsOf_length] at e9
      rw [Int.toNat_natCast, e9] at h
      simpa [intsOf, e8] using h
    · rw [e7] at hlen; simp at hlen ⊢; omega
  · have h1 : u < 128 := by simp at h1; omega
    have e7 : put7 u = [UInt8.ofNat u] := by rw [put7]; rw [dif_pos (by omega)]
    refine ixa_arr hs (by omega) (by omega) fun e ea => ?_
    refine sto_el ea h (by simp; omega) fun w h => ?_
    have e9 := set_tail (intsOf done) rest (wr8 (u : Int)) (by omega)
    simp only [intsOf_length] at e9
    rw [Int.toNat_natCast, e9] at h
    rw [w64_of (by omega) (by omega)]
    refine slc_arr (m := done.length + 1) (.inr ⟨_, rfl, by omega, by omega, by omega⟩) ?_ hs
    have hrd := h.rd (s := arS a 10)
    refine conv_bs (hrd.head (m := done.length + 1) (by simp)) ?_
    have e10 : bytesOf ((intsOf done ++ [wr8 (u : Int)] ++ rest.tail).take (done.length + 1)) = vput n := by
      have e11 : ((u : Int) % 256).toNat = u := by omega
      rw [List.take_left' (by simp), hv, e7, bytesOf_append, bytesOf_intsOf, wr8_eq]
      simp only [bytesOf, List.map_cons, List.map_nil, e11]
    rw [e10]
    exact hR w h.drop

/-- What Take tells. -/
def takeR (s : Bs) : Int × Bs × Int × Unit := match vtake s with | some (n, r) => (n, r, 0, ()) | none => (0, [], 2, ())
theorem takeR_some {s r : Bs} {n : Int} (h : vtake s = some (n, r)) : takeR s = (n, r, 0, ()) := by unfold takeR; rw [h]
theorem takeR_none {s : Bs} (h : vtake s = none) : takeR s = (0, [], 2, ()) := by unfold takeR; rw [h]

theorem Take_ok {R : (Int × Bs × Int × Unit) → World → Prop} {s : Bs} (hs : s.length ≤ 9223372036854775807) (h : SH o Γ w) (hR : ∀ w', SH o Γ w' → R (takeR s) w') : mcall P n_varint_Take [(.string ⟨s.toArray⟩)] (.tup [I, .s, I]) R w := by
  apply varint_Take_call
  unfold varint_Take_0 varint_Take_1
  refine loop_ok (fun (g : Nat × Nat) (t : Int × Int × Unit) w => t.2 = ((g.1 : Int), ()) ∧ g.1 ≤ 10 ∧ g.1 ≤ s.length ∧ SH o Γ w ∧ vtk 0 0 s = vtk g.1 g.2 (s.drop g.1) ∧ (g.1 ≤ 9 → t.1 = (g.2 : Int) ∧ g.2 < 2 ^ (7 * g.1))) (fun g => 10 - g.1) (0, 0) ⟨rfl, by omega, by omega, h, rfl, fun _ => ⟨rfl, by simp⟩⟩ ?_
  rintro ⟨k, u⟩ ⟨t, k', _⟩ w cont ⟨h1, hk, hks, h, hv, hu⟩ hc
  simp only [Prod.mk.injEq, and_true] at h1 hk hks hv hu
  subst h1
  dsimp only
  have none_ok : vtk k u (s.drop k) = none → ∀ w', SH o Γ w' → R (0, [], 2, ()) w' := fun e w' h => by
    have := hR w' h
    rwa [takeR_none (by unfold vtake; rw [hv, e])] at this
  refine mif_ok (fun g1 => ?_) (fun g1 => ?_)
  · have : k = s.length := by simp at g1; omega
    exact none_ok (by rw [List.drop_eq_nil_of_le (by omega)]; rfl) w h
  have hlt : k < s.length := by simp at g1; omega
  have hd : s.drop k = s[k] :: s.drop (k + 1) := by rw [List.drop_eq_getElem_cons hlt]
  refine mif_ok (fun g2 => ?_) (fun g2 => ?_)
  · have : k = 10 := by simp at g2; omega
    exact none_ok (by rw [hd, vtk, if_pos this]) w h
  have hk9 : k ≤ 9 := by simp at g2; omega
  obtain ⟨rfl, hu2⟩ := hu hk9
  refine ixs_ok (b := s[k]) (by omega) (by simp [hlt]) ?_
  have ew : w64 (7 * (k : Int)) = 7 * (k : Int) := w64_of (by omega) (by omega)
  rw [ew]
  refine mng_ok (by omega) ?_
  have ek : w64 ((k : Int) + 1) = ((k + 1 : Nat) : Int) := w64_of (by omega) (by omega)
  have hc8 := s[k].toNat_lt
  rw [ek]
  have hcont : 128 ≤ s[k].toNat → vtk k u (s.drop k) = vtk (k + 1) (u + (s[k].toNat % 128) * 2 ^ (7 * k)) (s.drop (k + 1)) := fun hb => by
    rw [hd, vtk, if_neg (by omega), if_pos hb]
  have hstop : s[k].toNat < 128 → vtk k u (s.drop k) = if (1 ≤ k ∧ s[k].toNat = 0) ∨ (k = 9 ∧ 1 < s[k].toNat) then none else some (u + (s[k].toNat % 128) * 2 ^ (7 * k), s.drop (k + 1)) := fun hb => by
    rw [hd, vtk, if_neg (by omega), if_neg (by omega)]
  have hfin : s[k].toNat < 128 → ¬ (1 ≤ k ∧ s[k].toNat = 0) → ¬ (k = 9 ∧ 1 < s[k].toNat) →
      varint_Take_3 cont R s (ior .u64 u (ishl .u64 (wr64 (iand .u8 s[k].toNat 127)) (7 * (k : Int)))) ((k + 1 : Nat) : Int) w := by
    intro hb h2 h3
    have hop := or_place (k := k) (u := u) (c := s[k].toNat) (by omega) hu2 (by omega)
    rw [ew] at hop
    rw [hop.1]
    have hlt : u + s[k].toNat % 128 * 2 ^ (7 * k) < 2 ^ 64 := vtk_lt (s.drop k) k u _ (s.drop (k + 1)) (by omega) hu2 (by rw [hstop hb, if_neg (by omega)])
    refine mdraw_ok h fun w h => ?_
    refine sls_from (by omega) (by omega) ?_
    have := hR w h
    rw [takeR_some (n := unzig (u + s[k].toNat % 128 * 2 ^ (7 * k))) (r := s.drop (k + 1)) (by unfold vtake; rw [hv, hstop hb, if_neg (by omega)])] at this
    rw [unzig_text hlt]
    simpa using this
  refine mif_ok (fun g3 => ?_) (fun g3 => ?_)
  · have hb : 128 ≤ s[k].toNat := by simp at g3; omega
    refine hc (k + 1, u + s[k].toNat % 128 * 2 ^ (7 * k)) _ w (by simp only; omega) ⟨rfl, by simp only; omega, by simp only; omega, h, ?_, fun h9 => ?_⟩
    · simp only; rw [hv, hcont hb]
    · have hop := or_place (k := k) (u := u) (c := s[k].toNat) (by simp only at h9; omega) hu2 (by omega)
      rw [ew] at hop
      exact hop
  have hb : s[k].toNat < 128 := by simp at g3; omega
  refine mif_ok (fun g4 => ?_) (fun g4 => ?_)
  · have h1 : 1 ≤ k := by simp at g4; omega
    refine mif_ok (fun g5 => ?_) (fun g5 => ?_)
    · have : s[k].toNat = 0 := by simp at g5; omega
      exact none_ok (by rw [hstop hb, if_pos (.inl ⟨h1, this⟩)]) w h
    have h2 : s[k].toNat ≠ 0 := by simp at g5; omega
    refine mif_ok (fun g6 => ?_) (fun g6 => ?_)
    · have h9 : k = 9 := by simp at g6; omega
      refine mif_ok (fun g7 => ?_) (fun g7 => ?_)
      · exact none_ok (by rw [hstop hb, if_pos (.inr ⟨h9, by simp at g7; omega⟩)]) w h
      · exact hfin hb (by omega) (by simp at g7; omega)
    · exact hfin hb (by omega) (by simp at g6; omega)
  · have h1 : k = 0 := by simp at g4; omega
    refine mif_ok (fun g6 => ?_) (fun g6 => ?_)
    · simp at g6; omega
    · exact hfin hb (by omega) (by omega)

theorem PutText_ok {R : Bs → World → Prop} {s : Bs} (hs : s.length ≤ 1099511627000) (h : SH o Γ w) (hR : ∀ w', SH o Γ w' → R (ptext s) w') : mcall P n_varint_PutText [(.string ⟨s.toArray⟩)] .s R w := by
  apply varint_PutText_call
  refine Put_ok ⟨by omega, by omega⟩ h fun w h => ?_
  have := vput_len (n := s.length) ⟨by omega, by omega⟩
  refine mcat_ok (by omega) ?_
  exact hR w h

/-- What TakeText tells. -/
def ttextR (s : Bs) (most : Int) : Bs × Bs × Int × Unit := match ttext s most with | some (x, r) => (x, r, 0, ()) | none => ([], [], 2, ())
theorem ttextR_some {s x r : Bs} {most : Int} (h : ttext s most = some (x, r)) : ttextR s most = (x, r, 0, ()) := by unfold ttextR; rw [h]
theorem ttextR_none {s : Bs} {most : Int} (h : ttext s most = none) : ttextR s most = ([], [], 2, ()) := by unfold ttextR; rw [h]
theorem TakeText_ok {R : (Bs × Bs × Int × Unit) → World → Prop} {s : Bs} {most : Int} (hs : s.length ≤ 9223372036854775807) (h : SH o Γ w) (hR : ∀ w', SH o Γ w' → R (ttextR s most) w') :
    mcall P n_varint_TakeText [(.string ⟨s.toArray⟩), (.int .i64 most)] (.tup [.s, .s, I]) R w := by
  apply varint_TakeText_call
  refine Take_ok hs h fun w h => ?_
  cases e : vtake s with
  | none =>
    rw [takeR_none e]
    refine mif_ok (fun g1 => ?_) (fun g1 => ?_)
    · have := hR w h
      rwa [ttextR_none (by unfold ttext; rw [e])] at this
    · simp at g1
  | some x =>
    obtain ⟨n, r⟩ := x
    have hbad : (n < 0 ∨ most < n ∨ (r.length : Int) < n) → R ([], [], 2, ()) w := fun hb => by
      have := hR w h
      rwa [ttextR_none (by unfold ttext; rw [e]; simp [hb])] at this
    rw [takeR_some e]
    refine mif_ok (fun g1 => ?_) (fun g1 => ?_)
    · simp at g1
    refine mif_ok (fun g2 => ?_) (fun g2 => ?_)
    · exact hbad (.inl (by simpa using g2))
    refine mif_ok (fun g3 => ?_) (fun g3 => ?_)
    · exact hbad (.inr (.inl (by simpa using g3)))
    refine mif_ok (fun g4 => ?_) (fun g4 => ?_)
    · exact hbad (.inr (.inr (by simpa using g4)))
    simp at g2 g3 g4
    refine mdraw_ok h fun w h => ?_
    refine sls_to g2 g4 ?_
    refine sls_from g2 g4 ?_
    have := hR w h
    rwa [ttextR_some (x := r.take n.toNat) (r := r.drop n.toNat) (by unfold ttext; rw [e]; simp; omega)] at this

theorem PutAll_ok {R : Bs → World → Prop} {l : Sl} {xs : List Int} (h : SH o Γ w) [hr : RdS l I xs Γ] (hx : ∀ n ∈ xs, I64 n) (hl : xs.length ≤ 4096) (hR : ∀ w', SH o Γ w' → R (putAll xs) w') :
    mcall P n_varint_PutAll [(Sl.v l)] .s R w := by
  apply varint_PutAll_call
  have hlen := h.len (s := l)
  refine alo_ok h fun b w h => ?_
  have h := bld_new (tE := t_uint8) h
  unfold varint_PutAll_1 varint_PutAll_3 varint_PutAll_4
  refine loop_ok (fun (i : Nat) t w => t = ((i : Int), ()) ∧ i ≤ xs.length ∧ SH o (bld b (putAll (xs.take i)) :: Γ) w) (fun i => xs.length - i) 0 ⟨rfl, by omega, by simpa [putAll] using h⟩ ?_
  rintro i _ w cont ⟨rfl, hi, h⟩ hc
  dsimp only
  have hpl : (putAll (xs.take i)).length ≤ 40960 := by
    have := putAll_len (l := xs.take i) fun n hn => hx n (List.mem_of_mem_take hn)
    simp at this; omega
  refine mif_ok (fun g1 => ?_) (fun g1 => ?_)
  · have hlt : i < xs.length := by simp at g1; omega
    refine ixa_ok h (by omega) (by omega) fun e ea => ?_
    refine ld_el ea h (List.getElem?_eq_getElem hlt) ?_
    have hn := hx xs[i] (List.getElem_mem hlt)
    refine Put_ok hn h fun w h => ?_
    have := vput_len hn
    refine WriteString_ok h (by omega) fun r w h => ?_
    rw [w64_of (by omega) (by omega)]
    refine hc (i + 1) _ w (by omega) ⟨rfl, hlt, ?_⟩
    have e1 : putAll (xs.take (i + 1)) = putAll (xs.take i) ++ vput xs[i] := by
      simp only [putAll, List.take_add_one, List.getElem?_eq_getElem hlt, Option.toList, List.flatMap_append, List.flatMap_cons, List.flatMap_nil, List.append_nil]
    rw [e1]; exact h
  · have hi' : i = xs.length := by simp at g1; omega
    subst hi'
    rw [List.take_length] at h hpl
    refine BString_ok h (by omega) fun w h => ?_
    exact hR w h

/-- TakeAll. -/
theorem TakeAll_ok {R : (Sl × Bs × Int × Unit) → World → Prop} {s : Bs} {n : Nat} (hs : s.length ≤ 9223372036854775807) (hn : n ≤ 64) (h : SH o Γ w)
    (hR : ∀ l xs r w', takeAll n s = some (xs, r) → SH o (slO l t_int I xs :: Γ) w' → R (l, r, 0, ()) w')
    (hN : ∀ w', takeAll n s = none → SH o Γ w' → R (⟨none, 0, 0⟩, [], 2, ()) w') : mcall P n_varint_TakeAll [(.string ⟨s.toArray⟩), (.int .i64 (n : Int))] (.tup [.sl, .s, I]) R w := by
  apply varint_TakeAll_call
  refine mif_ok (fun g1 => ?_) (fun g1 => ?_)
  · simp at g1; omega
  refine mif_ok (fun g2 => ?_) (fun g2 => ?_)
  · simp at g2; omega
  have h := h.nilS t_int I
  unfold varint_TakeAll_1 varint_TakeAll_3 varint_TakeAll_4
  refine loop_ok (fun (g : List Int × Bs) t w => ∃ l, t = (g.2, l, (g.1.length : Int), ()) ∧ g.1.length ≤ n ∧ g.2.length ≤ s.length ∧ SH o (slO l t_int I g.1 :: Γ) w ∧
      takeAll n s = (match takeAll (n - g.1.length) g.2 with | some (ys, r) => some (g.1 ++ ys, r) | none => none)) (fun g => n - g.1.length) ([], s)
    ⟨_, rfl, by simp, by simp, h, by simp; cases takeAll n s <;> rfl⟩ ?_
  rintro ⟨xs, r⟩ _ w cont ⟨l, rfl, hi, hr, h, ht⟩ hc
  simp only at hi hr h ht
  dsimp only
  refine mif_ok (fun g1 => ?_) (fun g1 => ?_)
  · have hlt : xs.length < n := by simp at g1; omega
    obtain ⟨m, hm⟩ : ∃ m, n - xs.length = m + 1 := ⟨n - xs.length - 1, by omega⟩
    rw [hm, takeAll] at ht
    refine Take_ok (by omega) h fun w h => ?_
    cases e : vtake r with
    | none =>
      rw [takeR_none e]
      refine mif_ok (fun g2 => ?_) (fun g2 => ?_)
      · exact hN w (by rw [ht, e]) h.drop
      · simp at g2
    | some y =>
      obtain ⟨k, r'⟩ := y
      rw [takeR_some e]
      refine mif_ok (fun g2 => ?_) (fun g2 => ?_)
      · simp at g2
      refine bsl_ok h fun u w h => ?_
      refine app_ok h.swap (by simp; omega) (fun y _ => okV_plain rfl y) fun v w h => ?_
      rw [w64_of (by omega) (by omega)]
      have := vtake_len e
      refine hc (xs ++ [k], r') _ w (by simp; omega) ⟨v, by simp, by simp; omega, by simp only; omega, h.swap.drop, ?_⟩
      simp only [List.length_append, List.length_cons, List.length_nil]
      rw [ht, e, show n - (xs.length + 1) = m by omega]
      simp only []
      cases takeAll m r' with
      | none => rfl
      | some z => simp
  · have hi' : xs.length = n := by simp at g1; omega
    have : takeAll n s = some (xs, r) := by rw [ht, show n - xs.length = 0 by omega]; simp [takeAll]
    exact hR l xs r w this h
end
end Go.Proofs.YtegjokkkdkaphaaGreatDoor
/- Contracts: check sums, frames. -/
namespace Go.Proofs.YtegjokkkdkaphaaGreatDoor
open Go Go.W
set_option maxRecDepth 100000

section
variable {o : Fix} {Γ Δ : List Assn} {w : World}

theorem step_ok {R : Int → World → Prop} {r : Int} (hR : R (crcStep r) w) : mcall P n_crc_register_step [(.int .u32 r)] (.i .u32) R w := by
  apply crc_register_step_call
  refine mif_ok (fun h1 => ?_) (fun h1 => ?_)
  · rw [crcStep, if_pos h1] at hR; exact hR
  · rw [crcStep, if_neg (by rw [h1]; decide)] at hR; exact hR

theorem More_ok {R : Int → World → Prop} {s : Bs} (hs : s.length ≤ 1099511627000) (hR : R (crcOf s) w) : mcall P n_crc_More [(.int .u32 0), (.string ⟨s.toArray⟩)] (.i .u32) R w := by
  apply crc_More_call
  unfold crc_More_0 crc_More_1 crc_More_3 crc_More_4
  refine loop_ok (fun (i : Nat) (t : Int × Int × Unit) w' => t = ((s.take i).foldl crcByte (inot .u32 0), (i : Int), ()) ∧ i ≤ s.length ∧ w' = w) (fun i => s.length - i) 0 ⟨by simp, by omega, rfl⟩ ?_
  rintro i _ w' cont ⟨rfl, hi, rfl⟩ hc
  dsimp only
  refine mif_ok (fun g1 => ?_) (fun g1 => ?_)
  · have hlt : i < s.length := by simp at g1; omega
    refine ixs_ok (b := s[i]) (by omega) (by simp [hlt]) ?_
    unfold crc_More_9
    refine loop_ok (fun (j : Nat) (t : Int × Int × Unit) w'' => t = (Nat.rec (ixor .u32 ((s.take i).foldl crcByte (inot .u32 0)) (wr32 s[i].toNat)) (fun _ x => crcStep x) j, (j : Int), ()) ∧ j ≤ 8 ∧ w'' = w') (fun j => 8 - j) 0 ⟨rfl, by omega, rfl⟩ ?_
    rintro j _ w'' cont2 ⟨rfl, hj, rfl⟩ hc2
    dsimp only
    refine mif_ok (fun g2 => ?_) (fun g2 => ?_)
    · have hj8 : j < 8 := by simp at g2; omega
      refine step_ok ?_
      rw [w64_of (by omega) (by omega)]
      exact hc2 (j + 1) _ _ (by omega) ⟨rfl, by omega, rfl⟩
    · have hj8 : j = 8 := by simp at g2; omega
      subst hj8
      unfold crc_More_7
      rw [w64_of (by omega) (by omega)]
      refine hc (i + 1) _ _ (by omega) ⟨?_, by omega, rfl⟩
      have e1 : (s.take (i + 1)).foldl crcByte (inot .u32 0) = crcByte ((s.take i).foldl crcByte (inot .u32 0)) s[i] := by
        rw [List.take_add_one, List.getElem?_eq_getElem hlt, List.foldl_append]; rfl
      rw [e1]; rfl
  · have hi' : i = s.length := by simp at g1; omega
    subst hi'
    rw [List.take_length]
    exact hR

theorem Seal_ok {R : Bs → World → Prop} {s : Bs} (hs : s.length ≤ 1099511627000) (h : SH o Γ w) (hR : ∀ w', SH o Γ w' → R (sealed s) w') : mcall P n_crc_Seal [(.string ⟨s.toArray⟩)] .s R w := by
  apply crc_Seal_call
  have hsum : ∀ {K : Int → World → Prop} {w : World}, K (crcOf s) w → mcall P n_crc_Sum [(.string ⟨s.toArray⟩)] (.i .u32) K w := fun hK => by
    apply crc_Sum_call
    exact More_ok hs hK
  refine hsum ?_
  refine bsl_ok h fun x w h => ?_
  refine conv_bs (h.rd (s := x)) ?_
  refine mcat_ok (by simp; omega) ?_
  exact hR w h.drop

/-- What Unseal tells. -/
def unsealR (s : Bs) : Bs × Int × Unit := match unsealed s with | some t => (t, 0, ()) | none => ([], 2, ())
theorem Unseal_ok {R : (Bs × Int × Unit) → World → Prop} {s : Bs} (hs : s.length ≤ 1099511627000) (h : SH o Γ w) (hR : ∀ w', SH o Γ w' → R (unsealR s) w') : mcall P n_crc_Unseal [(.string ⟨s.toArray⟩)] (.tup [.s, I]) R w := by
  apply crc_Unseal_call
  have no : ∀ w', ¬ (4 ≤ s.length ∧ sealed (s.take (s.length - 4)) = s) → SH o Γ w' → R ([], 2, ()) w' := fun w' hn h => by
    have := hR w' h
    unfold unsealR unsealed at this
    rwa [if_neg hn] at this
  have e4 : w64 ((s.length : Int) - 4) = (s.length : Int) - 4 := w64_of (by omega) (by omega)
  unfold crc_Unseal_0
  rw [e4]
  refine mif_ok (fun g1 => ?_) (fun g1 => ?_)
  · have h4 : 4 ≤ s.length := by simp at g1; omega
    have en : ((s.length : Int) - 4).toNat = s.length - 4 := by omega
    refine sls_to (by omega) (by omega) ?_
    rw [en]
    refine Seal_ok (by simp; omega) h fun w h => ?_
    refine mif_ok (fun g2 => ?_) (fun g2 => ?_)
    · have g2 : sealed (s.take (s.length - 4)) = s := by simpa using g2
      refine sls_to (by omega) (by omega) ?_
      rw [en]
      have := hR w h
      unfold unsealR unsealed at this
      rwa [if_pos ⟨h4, g2⟩] at this
    · exact no w (fun hn => by simp [hn.2] at g2) h
  · exact no w (fun hn => by simp at g1; omega) h

theorem fCheck_ok {R : Int → World → Prop} {e : Ent} (h : SH o Γ w) (hR : ∀ w', SH o Γ w' → R (if fcheck e then 0 else 1) w') : mcall P n_frame_Check [KV k_api_Record e] I R w := by
  apply frame_Check_call
  have no : ∀ w', ¬ fcheck e = true → SH o Γ w' → R 1 w' := fun w' hn h => by have := hR w' h; rwa [if_neg hn] at this
  refine bx_ok h fun a w h => ?_
  refine ld_fld0 h ?_
  refine mif_ok (fun h1 => ?_) (fun h1 => ?_) <;> simp at h1
  · exact no _ (by simp [fcheck]; omega) h.drop
  refine ld_fld0 h ?_
  refine mif_ok (fun h2 => ?_) (fun h2 => ?_) <;> simp at h2
  · exact no _ (by simp [fcheck]; omega) h.drop
  refine ld_fld h ?_
  refine mif_ok (fun h3 => ?_) (fun h3 => ?_) <;> simp at h3
  · exact no _ (by simp [fcheck]; omega) h.drop
  refine ld_fld h ?_
  refine mif_ok (fun h4 => ?_) (fun h4 => ?_) <;> simp at h4
  · exact no _ (by simp [fcheck]; omega) h.drop
  refine ld_fld h ?_
  refine mif_ok (fun h5 => ?_) (fun h5 => ?_) <;> simp at h5
  · exact no _ (by simp [fcheck]; omega) h.drop
  have := hR _ h.drop
  rwa [if_pos (by simp [fcheck]; omega)] at this

theorem Lay_ok {R : (Bs × Int × Unit) → World → Prop} {e : Ent} (h : SH o Γ w) (hR : ∀ w', SH o Γ w' → R (if fcheck e then (flay e, 0, ()) else ([], 1, ())) w') : mcall P n_frame_Lay [KV k_api_Record e] (.tup [.s, I]) R w := by
  apply frame_Lay_call
  refine bx_ok h fun a w h => ?_
  refine ld_fld0 h ?_
  refine fCheck_ok h fun w h => ?_
  refine mif_ok (fun h1 => ?_) (fun h1 => ?_)
  · have hn : ¬ fcheck e = true := by intro hc; simp [hc] at h1
    have := hR w h.drop
    rw [if_neg hn] at this ⊢
    exact this
  · have hc : fcheck e = true := by
      cases hc : fcheck e with
      | true => rfl
      | false => simp [hc] at h1
    have hb := fbody_len hc
    have hc' := hc
    simp only [fcheck, decide_eq_true_eq] at hc'
    refine mdraw_ok h fun w h => ?_
    refine ld_fld0 h ?_
    refine ld_fld h ?_
    refine ld_fld h ?_
    refine bsl_ok h fun x w h => ?_
    refine mst_fld h ?_
    refine PutAll_ok h (by intro n hn; simp at hn; rcases hn with rfl | rfl <;> constructor <;> omega) (by simp) fun w h => ?_
    refine mst_fld h ?_
    simp only [List.length_append] at hb
    refine mcat_ok (by omega) ?_
    refine PutText_ok (by simp only [List.length_append]; omega) h fun w h => ?_
    have := vput_len (n := (putAll [e.1, e.2.1] ++ e.2.2.1).length) ⟨by omega, by simp only [List.length_append]; omega⟩
    refine Seal_ok (by unfold ptext; simp only [List.length_append] at this ⊢; omega) h fun w h => ?_
    have := hR w h.drop.drop
    rw [if_pos hc] at this
    exact this

/-- What Take tells of a frame. -/
def ftakeR (s : Bs) : Ent × Bs × Int × Unit := match ftake s with | some (e, r) => (e, r, 0, ()) | none => ((0, 0, [], ()), [], 2, ())
theorem ftakeR_some {s r : Bs} {e : Ent} (h : ftake s = some (e, r)) : ftakeR s = (e, r, 0, ()) := by unfold ftakeR; rw [h]
theorem ftakeR_none {s : Bs} (h : ftake s = none) : ftakeR s = ((0, 0, [], ()), [], 2, ()) := by unfold ftakeR; rw [h]
theorem FTake_ok {R : (T_api_Record × Bs × Int × Unit) → World → Prop} {s : Bs} (hs : s.length ≤ 1099511620000) (h : SH o Γ w) (hR : ∀ w', SH o Γ w' → R (ftakeR s) w') :
    mcall P n_frame_Take [(.string ⟨s.toArray⟩)] (.tup [k_api_Record, .s, I]) R w := by
  apply frame_Take_call
  refine alo_ok h fun a w h => ?_
  refine TakeText_ok (by omega) h fun w h => ?_
  have no : ∀ {Γ' : List Assn} {w'} {x : T_api_Record} (hn : ftake s = none), SH o (vr a t_api_Entry k_api_Record x :: Γ) w' →
      sto P t_api_Entry a k_api_Record (0, 0, [], ()) (ld P t_api_Entry a k_api_Record fun (x3 : T_api_Record) => R (x3, [], 2, ())) w' := fun hn h => by
    refine sto_fld0 h fun w h => ?_
    refine ld_fld0 h ?_
    have := hR w h.drop
    rwa [ftakeR_none hn] at this
  cases e1 : ttext s 131072 with
  | none =>
    rw [ttextR_none e1]
    refine mif_ok (fun g1 => ?_) (fun g1 => ?_)
    · exact no (Γ' := []) (by unfold ftake; rw [e1]) h
    · simp at g1
  | some y =>
    obtain ⟨b0, rest⟩ := y
    have hl := ttext_len e1
    rw [ttextR_some e1]
    refine mif_ok (fun g1 => ?_) (fun g1 => ?_)
    · simp at g1
    refine mif_ok (fun g2 => ?_) (fun g2 => ?_)
    · have : rest.length < 4 := by simp at g2; omega
      exact no (Γ' := []) (by unfold ftake; rw [e1]; simp only []; rw [if_pos this]) h
    have h4 : ¬ rest.length < 4 := by simp at g2; omega
    have ew : w64 ((w64 ((s.length : Int) - (rest.length : Int))) + 4) = ((s.length - rest.length + 4 : Nat) : Int) := by
      rw [w64_of (x := (s.length : Int) - (rest.length : Int)) (by omega) (by omega), w64_of (by omega) (by omega)]; omega
    dsimp only
    rw [ew]
    refine sls_to (by omega) (by omega) ?_
    rw [Int.toNat_natCast]
    refine Unseal_ok (by simp; omega) h fun w h => ?_
    unfold unsealR
    cases e2 : unsealed (s.take (s.length - rest.length + 4)) with
    | none =>
      refine mif_ok (fun g3 => ?_) (fun g3 => ?_)
      · exact no (Γ' := []) (by unfold ftake; rw [e1]; simp only []; rw [if_neg h4, e2]) h
      · simp at g3
    | some t =>
      have ht : t.length ≤ s.length := by
        unfold unsealed at e2
        split at e2
        · cases e2; simp; omega
        · cases e2
      refine mif_ok (fun g3 => ?_) (fun g3 => ?_)
      · simp at g3
      refine TakeText_ok (by simp only; omega) h fun w h => ?_
      obtain ⟨b, hb, hbl, hbody⟩ : ∃ b : Bs, (ttextR t t.length).1 = b ∧ b.length ≤ t.length ∧ fst0 (ttext t t.length) = b := by
        refine ⟨_, rfl, ?_, ?_⟩
        · cases e3 : ttext t t.length with
          | none => rw [ttextR_none e3]; simp
          | some z => obtain ⟨z1, z2⟩ := z; rw [ttextR_some e3]; have := ttext_len e3; simp only; omega
        · cases e3 : ttext t t.length with
          | none => rw [ttextR_none e3]; rfl
          | some z => obtain ⟨z1, z2⟩ := z; rw [ttextR_some e3]; rfl
      dsimp only
      rw [hb]
      refine TakeAll_ok (n := 2) (by omega) (by omega) h (fun l xs r w e3 h => ?_) (fun w e3 h => ?_)
      · obtain ⟨hx1, hx2, hx3⟩ := takeAll_len _ _ _ _ e3
        obtain ⟨x, y, rfl⟩ : ∃ x y, xs = [x, y] := by
          match xs, hx1 with
          | [x, y], _ => exact ⟨x, y, rfl⟩
        refine mif_ok (fun g4 => ?_) (fun g4 => ?_)
        · simp at g4
        have hlen := h.len (s := l)
        simp only [List.length_cons, List.length_nil] at hlen
        refine mdraw_ok h fun w h => ?_
        refine ixa_ok h (by omega) (by simp only; omega) fun p0 ea0 => ?_
        refine ld_el ea0 h rfl ?_
        refine ixa_ok h (by omega) (by simp only; omega) fun p1 ea1 => ?_
        refine ld_el ea1 h rfl ?_
        refine alo_ok h fun a2 w h => ?_
        refine mst_el ea1 h rfl ?_
        refine mst_ixa h ea1 (by omega) (by simp only; omega) ?_
        refine mst_el ea0 h rfl ?_
        refine mst_ixa h ea0 (by omega) (by simp only; omega) ?_
        refine sto_fld0 h fun w h => ?_
        refine ld_fld0 h ?_
        refine fCheck_ok h fun w h => ?_
        have hft : ftake s = match fcheck (x, y, r, ()) with | true => some ((x, y, r, ()), rest.drop 4) | false => none := by
          unfold ftake; rw [e1]; simp only []; rw [if_neg h4, e2]; simp only []; rw [hbody, e3]; rfl
        cases hc : fcheck (x, y, r, ()) with
        | true =>
          rw [hc] at hft
          refine mif_ok (fun g5 => ?_) (fun g5 => ?_)
          · simp at g5
          refine mdraw_ok h fun w h => ?_
          refine ld_fld0 h ?_
          refine sls_from (by omega) (by omega) ?_
          refine sto_fld0 h fun w h => ?_
          refine mst_from (by omega) (by omega) ?_
          refine ld_fld0 h ?_
          have := hR w h.drop.drop.drop
          rw [ftakeR_some hft] at this
          exact this
        | false =>
          rw [hc] at hft
          refine mif_ok (fun g5 => ?_) (fun g5 => ?_)
          · exact no (Γ' := []) hft (h.drop.drop)
          · simp at g5
      · refine mif_ok (fun g4 => ?_) (fun g4 => ?_)
        · exact no (Γ' := []) (by unfold ftake; rw [e1]; simp only []; rw [if_neg h4, e2]; simp only []; rw [hbody, e3]) h
        · simp at g4
end
end Go.Proofs.YtegjokkkdkaphaaGreatDoor
/- Contracts: the frames of a row. -/
namespace Go.Proofs.YtegjokkkdkaphaaGreatDoor
open Go Go.W
set_option maxRecDepth 100000

section
variable {o : Fix} {Γ Δ : List Assn} {w : World}

theorem Each_ok {R : Unit → World → Prop} {Y : Value} {v : Addr} {s0 : Bs} (I J : List (Int × Ent) → List Assn) (hs : s0.length ≤ 274877906000) (h : SH o (vr v t_string .s s0 :: I []) w)
    (hy : ∀ (pre : List (Int × Ent)) (x : Int × Ent) (rest : List (Int × Ent)) (A : Assn) (w : World) (K : Bool → World → Prop), rowM s0 = pre ++ x :: rest → SH o (A :: I pre) w →
      (∀ w', SH o (A :: I (pre ++ [x])) w' → K true w') → (∀ w', SH o (A :: J (pre ++ [x])) w' → K false w') → mdyn P Y [.int .i64 x.1, KV k_api_Record x.2] .b K w)
    (hR : ∀ w', SH o (I (rowM s0)) w' → R () w') (hJ : ∀ pre rest w', rowM s0 = pre ++ rest → SH o (J pre) w' → R () w') : mcall P n_frame_Each_c1 [Y, .pointer (some v)] (.tup []) R w := by
  apply frame_Each_c1_call
  unfold frame_Each_c1_0 frame_Each_c1_1
  refine loop_ok (fun (g : List (Int × Ent) × Bs) t w => rowM s0 = g.1 ++ rowM g.2 ∧ g.2.length ≤ s0.length ∧ SH o (vr v t_string .s g.2 :: I g.1) w) (fun g => g.2.length) ([], s0) ⟨rfl, by simp, h⟩ ?_
  rintro ⟨pre, s⟩ _ w cont ⟨hr, hl, h⟩ hc
  simp only at hr hl h
  refine ld_fld0 h ?_
  refine FTake_ok (by omega) h fun w h => ?_
  cases e : ftake s with
  | none =>
    rw [ftakeR_none e]
    refine alo_ok h fun a w h => ?_
    refine sto_fld0 h fun w h => ?_
    refine mif_ok (fun g1 => ?_) (fun g1 => ?_)
    · rw [rowM_none e, List.append_nil] at hr
      exact hR w (by rw [hr]; exact h.drop.drop)
    · simp at g1
  | some y =>
    obtain ⟨x, r⟩ := y
    have hrl := ftake_len e
    rw [rowM_some e] at hr
    rw [ftakeR_some e]
    refine alo_ok h fun a w h => ?_
    refine sto_fld0 h fun w h => ?_
    refine mif_ok (fun g1 => ?_) (fun g1 => ?_)
    · simp at g1
    refine ld_fld0 h ?_
    refine ld_fld0 h ?_
    dsimp only
    rw [w64_of (by omega) (by omega)]
    refine hy pre ((s.length : Int) - r.length, x) (rowM r) _ w _ hr h.drop (fun w h => ?_) (fun w h => ?_)
    · refine mif_ok (fun g2 => ?_) (fun g2 => ?_)
      · cases g2
      refine sto_fld0 h fun w h => ?_
      exact hc (pre ++ [((s.length : Int) - r.length, x)], r) _ w (by simpa using hrl) ⟨by simp [hr], by simp only; omega, h⟩
    · refine mif_ok (fun g2 => ?_) (fun g2 => ?_)
      · exact hJ _ (rowM r) w (by simp [hr]) h.drop
      · cases g2

def sumF (l : List (Int × Ent)) : Int := (l.map (·.1)).foldl (· + ·) 0
theorem sumF_snoc (l : List (Int × Ent)) (x : Int × Ent) : sumF (l ++ [x]) = sumF l + x.1 := by simp [sumF]
theorem rowM_bound : ∀ (n : Nat) (s : Bs), s.length ≤ n → ∀ pre rest, rowM s = pre ++ rest → 0 ≤ sumF pre ∧ sumF pre ≤ s.length ∧ pre.length ≤ s.length := by
  intro n
  induction n with
  | zero =>
    intro s hs pre rest h
    have : s = [] := List.length_eq_zero_iff.1 (by omega)
    subst this
    rw [rowM_none ftake_nil] at h
    have : pre = [] := by cases pre with
      | nil => rfl
      | cons a b => cases h
    subst this; simp [sumF]
  | succ n ih =>
    intro s hs pre rest h
    cases e : ftake s with
    | none =>
      rw [rowM_none e] at h
      have : pre = [] := by cases pre with
        | nil => rfl
        | cons a b => cases h
      subst this; simp [sumF]
    | some y =>
      obtain ⟨x, r⟩ := y
      have hl := ftake_len e
      rw [rowM_some e] at h
      cases pre with
      | nil => simp [sumF]
      | cons a pre =>
        simp only [List.cons_append, List.cons.injEq] at h
        obtain ⟨rfl, h⟩ := h
        have := ih r (by omega) pre rest h
        have hs2 : ∀ (l : List (Int × Ent)) (c : Int), (l.map (·.1)).foldl (· + ·) c = c + sumF l := by
          intro l
          induction l with
          | nil => intro c; simp [sumF]
          | cons y l ihl => intro c; simp only [List.map_cons, List.foldl_cons, sumF]; rw [ihl, ihl (0 + y.1)]; omega
        have e1 : sumF (((s.length : Int) - r.length, x) :: pre) = ((s.length : Int) - r.length) + sumF pre := by
          unfold sumF; simp only [List.map_cons, List.foldl_cons]; rw [hs2]; unfold sumF; omega
        rw [e1]; simp only [List.length_cons]; omega

theorem Row_ok {R : (Sl × Int × Unit) → World → Prop} {s : Bs} (hs : s.length ≤ 274877906000) (h : SH o Γ w)
    (hR : ∀ sl w', SH o (slO sl t_api_Entry k_api_Record ((rowM s).map (·.2)) :: Γ) w' → R (sl, sumF (rowM s), ()) w') : mcall P n_frame_Row [(.string ⟨s.toArray⟩)] (.tup [.sl, I]) R w := by
  refine mcall_marks frame_Row_get (c := frame_Row_B) (n := 21) (by kernel_rfl) (by kernel_rfl) (by kernel_rfl) (by kernel_rfl) ?_
  -- ahead of the range
  have hpre : (alo P t_sl_api_Entry fun a1 => alo P t_int fun a2 => sto P t_int a2 I 0 fun w =>
      (s, a1, a2, ()).1 = s ∧ SH o (slO ⟨none, 0, 0⟩ t_api_Entry k_api_Record [] :: vr (s, a1, a2, ()).2.1 t_sl_api_Entry .sl ⟨none, 0, 0⟩ :: vr (s, a1, a2, ()).2.2.1 t_int I 0 :: Γ) w) w := by
    refine alo_ok h fun a1 w h => ?_
    refine alo_ok h fun a2 w h => ?_
    refine sto_fld0 h fun w h => ?_
    exact ⟨rfl, h.swap.nilS t_api_Entry k_api_Record⟩
  refine pm_cut (l := [(0, .s), (4, .ad), (5, .ad)]) (F := fun x w => x.1 = s ∧ SH o (slO ⟨none, 0, 0⟩ t_api_Entry k_api_Record [] :: vr x.2.1 t_sl_api_Entry .sl ⟨none, 0, 0⟩ :: vr x.2.2.1 t_int I 0 :: Γ) w)
    (c' := Code.at frame_Row_B [.snd, .snd, .snd]) hmix 3 (by simp [argE]) (by kernel_rfl) (by kernel_rfl) ?_ hpre
  clear hpre h
  rintro ⟨s', a1, a2, _⟩ w ⟨rfl, h⟩
  dsimp only at h hs hR ⊢
  refine pm_seq (a := Code.at frame_Row_B [.snd, .snd, .snd, .fst]) (b := Code.at frame_Row_B [.snd, .snd, .snd, .snd]) (by kernel_rfl)
    (K := fun env ds w => ∃ d v9 u, env = mkE 21 [(4, .ad), (5, .ad), (9, .v)] (a1, a2, v9, ()) ∧ ds = [d] ∧
      SH o (dfA d :: slO u t_api_Entry k_api_Record ((rowM s').map (·.2)) :: vr a1 t_sl_api_Entry .sl u :: vr a2 t_int I (sumF (rowM s')) :: Γ) w) ?_ ?_
  · -- the range
    have hpre : (mcall P n_frame_Each [(.string ⟨s'.toArray⟩)] .v fun x9 w => (a1, a2, x9, ()).1 = a1 ∧ (a1, a2, x9, ()).2.1 = a2 ∧ ∃ v, (a1, a2, x9, ()).2.2.1 = .func (.func n_frame_Each_c1) #[] #[.pointer (some v)] ∧
        SH o (vr v t_string .s s' :: slO ⟨none, 0, 0⟩ t_api_Entry k_api_Record [] :: vr a1 t_sl_api_Entry .sl ⟨none, 0, 0⟩ :: vr a2 t_int I 0 :: Γ) w) w := by
      apply frame_Each_call
      refine bx_ok h fun v w h => ?_
      exact ⟨rfl, rfl, v, rfl, h⟩
    refine pm_cut (l := [(4, .ad), (5, .ad), (9, .v)]) (F := fun x w => x.1 = a1 ∧ x.2.1 = a2 ∧ ∃ v, x.2.2.1 = .func (.func n_frame_Each_c1) #[] #[.pointer (some v)] ∧
        SH o (vr v t_string .s s' :: slO ⟨none, 0, 0⟩ t_api_Entry k_api_Record [] :: vr a1 t_sl_api_Entry .sl ⟨none, 0, 0⟩ :: vr a2 t_int I 0 :: Γ) w)
      (c' := Code.at frame_Row_B [.snd, .snd, .snd, .fst, .snd]) hmix 1 (mkE_len ..) (by kernel_rfl) (by kernel_rfl) ?_ hpre
    clear hpre h
    rintro ⟨b1, b2, x9, _⟩ w ⟨rfl, rfl, v, h9, h⟩
    dsimp only at h9 h hs hR ⊢
    subst h9
    refine pm_block (id := 0) (c := Code.at frame_Row_B [.snd, .snd, .snd, .fst, .snd, .blk]) (by kernel_rfl) ?_
    have hcode : Code.at frame_Row_B [.snd, .snd, .snd, .fst, .snd, .blk] = .rangeFunc (.tmp 9) #[10, 11] (Code.at frame_Row_B [.snd, .snd, .snd, .fst, .snd, .blk, .fst]) (Code.at frame_Row_B [.snd, .snd, .snd, .fst, .snd, .blk, .blk]) := by kernel_rfl
    rw [hcode]
    refine WPM.range h (gf := n_frame_Each_c1) (lb := #[.pointer (some v)]) rfl frame_Each_c1_ent ?_
    clear h
    intro l r D w hps has hbo hn hRel h
    let A : List (Int × Ent) → Assn := fun pre => exA fun u : Sl => starA [vr b1 t_sl_api_Entry .sl u, slO u t_api_Entry k_api_Record (pre.map (·.2))]
    refine Each_ok (o := o) (fun pre => rfA l r .ready none :: dfA r.d :: A pre :: vr b2 t_int I (sumF pre) :: Γ) (fun pre => [pureA False]) (v := v) (s0 := s') hs ?_ ?_ ?_ ?_
    · have h3 : SH o (vr b1 t_sl_api_Entry .sl ⟨none, 0, 0⟩ :: slO ⟨none, 0, 0⟩ t_api_Entry k_api_Record [] :: vr v t_string .s s' :: rfA l r .ready none :: dfA r.d :: vr b2 t_int I 0 :: Γ) w := h.to
      have h4 : SH o (A [] :: vr v t_string .s s' :: rfA l r .ready none :: dfA r.d :: vr b2 t_int I 0 :: Γ) w := SH.ex.2 ⟨⟨none, 0, 0⟩, SH.star2.2 h3⟩
      have h5 : SH o (vr v t_string .s s' :: rfA l r .ready none :: dfA r.d :: A [] :: vr b2 t_int I 0 :: Γ) w := h4.to
      exact h5
    · -- a round
      intro pre x rest A0 w K hrow h hT hF
      show myield P l [.int .i64 x.1, KV k_api_Record x.2] .b K w
      have hb := rowM_bound s'.length s' (Nat.le_refl _) (pre ++ [x]) rest (by simp [hrow])
      have hb0 := rowM_bound s'.length s' (Nat.le_refl _) pre (x :: rest) hrow
      rw [sumF_snoc] at hb
      have h : SH o (rfA l r .ready none :: A0 :: dfA r.d :: A pre :: vr b2 t_int I (sumF pre) :: Γ) w := h.to
      refine yield_cut (n := 21) (l2 := [(4, .ad), (5, .ad), (6, I), (7, .ad)]) (F := fun y w => y.1 = b1 ∧ y.2.1 = b2 ∧ y.2.2.1 = x.1 ∧ SH o (rfA l r .ready none :: vr y.2.2.2.1 t_api_Entry k_api_Record x.2 :: A0 :: dfA r.d :: A pre :: vr b2 t_int I (sumF pre) :: Γ) w)
        hmix h (by rw [hps]; rfl) hn hRel ?_ ?_
      · rw [has, hps]
        refine Eq.mp (α := (alo P t_api_Entry fun a3 => sto P t_api_Entry a3 k_api_Record x.2 fun w => (b1, b2, x.1, a3, ()).1 = b1 ∧ (b1, b2, x.1, a3, ()).2.1 = b2 ∧ (b1, b2, x.1, a3, ()).2.2.1 = x.1 ∧
          SH o (rfA l r .ready none :: vr (b1, b2, x.1, a3, ()).2.2.2.1 t_api_Entry k_api_Record x.2 :: A0 :: dfA r.d :: A pre :: vr b2 t_int I (sumF pre) :: Γ) w) w) (by kernel_rfl) ?_
        refine alo_ok h fun a3 w h => ?_
        refine sto_fld0 h fun w h => ?_
        exact ⟨rfl, rfl, rfl, h.to⟩
      · rintro ⟨y1, y2, y3, a3, _⟩ w ⟨rfl, rfl, rfl, h⟩
        refine ⟨_, h, fun w h => ?_⟩
        rw [hbo]
        refine Eq.mp (α := (ld P t_sl_api_Entry y1 .sl fun (x1 : Sl) => ld P t_api_Entry a3 k_api_Record fun (x2 : T_api_Record) => bsl P t_sl_api_Entry k_api_Record [x2] fun x3 =>
          app P #[t_sl_api_Entry, t_sl_api_Entry] t_sl_api_Entry (Sl.v x1) (Sl.v x3) fun (x4 : Sl) => sto P t_sl_api_Entry y1 .sl x4 <| ld P t_int y2 I fun (x5 : Int) => sto P t_int y2 I (w64 (x5 + x.1)) <| rndQ o l r K .normal []) w) (by kernel_rfl) ?_
        have h := SH.takeI (A pre) h
        obtain ⟨u, h⟩ := SH.ex.1 h
        have h := SH.star2.1 h
        refine ld_fld0 h ?_
        refine ld_var h ?_
        refine bsl_ok h fun u2 w h => ?_
        refine app_ok h (by simp; omega) (fun y _ => okV_plain rfl y) fun u3 w h => ?_
        refine sto_fld0 h fun w h => ?_
        refine ld_fld0 h ?_
        rw [w64_of (by omega) (by omega)]
        refine sto_fld0 h fun w h => ?_
        have e1 : pre.map (·.2) ++ [x.2] = (pre ++ [x]).map (·.2) := by simp
        rw [e1, ← sumF_snoc] at h
        have h : SH o (A (pre ++ [x]) :: rfA l r .busy none :: A0 :: dfA r.d :: vr y2 t_int I (sumF (pre ++ [x])) :: Γ) w := SH.ex.2 ⟨u3, SH.star2.2 h.to⟩
        have h : SH o (rfA l r .busy none :: A0 :: dfA r.d :: A (pre ++ [x]) :: vr y2 t_int I (sumF (pre ++ [x])) :: Γ) w := h.to
        refine ⟨_, h, fun w h => hT w ?_⟩
        exact h.to
    · intro w h
      refine ⟨.ready, none, _, by simp, h, fun w h => ?_⟩
      have h := SH.takeI (A (rowM s')) h
      obtain ⟨u, h⟩ := SH.ex.1 h
      have h := SH.star2.1 h
      exact ⟨r.d, _, u, rfl, rfl, h.to⟩
    · intro pre rest w hr h
      exact (SH.pure.1 h).1.elim
  · -- behind
    rintro _ _ w hl ⟨d, v9, u, rfl, rfl, h⟩
    refine pm_code hmix (T := (mdraw <| ld P t_sl_api_Entry a1 .sl fun (x3 : Sl) => ld P t_int a2 I fun (x4 : Int) => mtake P [d] (R (x3, x4, ()))) w) (by kernel_rfl) ?_
    refine mdraw_ok h fun w h => ?_
    refine ld_fld0 h ?_
    refine ld_fld0 h ?_
    refine mtake_ok (Γ := slO u t_api_Entry k_api_Record ((rowM s').map (·.2)) :: vr a1 t_sl_api_Entry .sl u :: vr a2 t_int I (sumF (rowM s')) :: Γ) h fun w h => ?_
    exact hR u w h.to
end
end Go.Proofs.YtegjokkkdkaphaaGreatDoor
