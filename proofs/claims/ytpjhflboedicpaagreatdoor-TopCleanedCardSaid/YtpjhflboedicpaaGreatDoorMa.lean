/- Contracts of functions of the program, proved on their short texts. No condition. -/
import Derived.Test.YtpjhflboedicpaaGreatDoorTextA
import Derived.Test.YtpjhflboedicpaaGreatDoorTextB
import Derived.Test.YtpjhflboedicpaaGreatDoorTextC
import Derived.Test.YtpjhflboedicpaaGreatDoorTextD
import Derived.Test.YtpjhflboedicpaaGreatDoorTextE
import Derived.Test.YtpjhflboedicpaaGreatDoorTextF
import Derived.Test.YtpjhflboedicpaaGreatDoorTextG
import Derived.Test.YtpjhflboedicpaaGreatDoorTextH
import Derived.Test.YtpjhflboedicpaaGreatDoorTextI
import Derived.Test.YtpjhflboedicpaaGreatDoorTextJ
import Derived.Test.YtpjhflboedicpaaGreatDoorTextK
import Derived.Test.YtpjhflboedicpaaGreatDoorTextL
set_option linter.unusedVariables false
set_option linter.unusedSimpArgs false
namespace Go.Proofs.YtpjhflboedicpaaGreatDoor
open Go Go.W
set_option maxRecDepth 100000
abbrev bld (b : Addr) (bs : Bs) : Assn := bldA zt11 zt3 b bs
section
variable {o : Fix} {Γ Δ : List Assn} {w : World}
theorem NoEscape_ok {R : Value → World → Prop} {v : Value} (hR : R v w) : mcall P n_zf4l [v] .v R w := by
  refine .ext v w ?_ hR
  rfl
theorem copyCheck_ok {R : Unit → World → Prop} {b : Addr} {q : Option Addr} {x : Sl} (hq : q = none ∨ q = some b) (h : SH o (vr b zt11 kBld (q, x, ()) :: Γ) w)
    (hR : ∀ w', SH o (vr b zt11 kBld (some b, x, ()) :: Γ) w' → R () w') : mcall P n_zf3t [(.pointer (some b))] (.tup []) R w := by
  apply zf3t_call
  refine mnil_ok ?_
  refine ld_fld0 h ?_
  refine meq_ptr_nil ?_
  refine mif_ok (fun h1 => ?_) (fun h1 => ?_)
  · refine to_unsafe h (by kernel_rfl) (by kernel_rfl) (by decide) ?_
    refine NoEscape_ok ?_
    refine from_unsafe h (by kernel_rfl) (by kernel_rfl) (by kernel_rfl) ?_
    refine mnil_ok ?_
    refine sto_fld0 h fun w h => ?_
    exact hR w h
  · rcases hq with rfl | rfl
    · cases h1
    · refine mnil_ok ?_
      refine ld_fld0 h ?_
      refine mne_ptr_same (by kernel_rfl) ?_
      exact hR w h
theorem WriteString_ok {R : (Int × Value × Unit) → World → Prop} {b : Addr} {bs s : Bs} (h : SH o Γ w) [hb : Has (bld b) bs Γ Δ] (hl : bs.length + s.length ≤ 274877906944)
    (hR : ∀ r w', SH o (bld b (bs ++ s) :: Δ) w' → R r w') : mcall P n_zf2j [(.pointer (some b)), (.string ⟨s.toArray⟩)] (.tup [I, .v]) R w := by
  apply zf2j_call
  obtain ⟨q, x, hq, hx, h⟩ := bld_open.1 (SH.take (f := bld b) h)
  refine copyCheck_ok hq h fun w h => ?_
  refine mnil_ok ?_
  refine ld_fld h ?_
  refine app_str h (by simpa using hl) fun r w hon h => ?_
  refine mnil_ok ?_
  refine sto_fld h fun w h => ?_
  refine hR _ w (bld_open.2 ⟨some b, r, .inr rfl, ?_, by simpa using h⟩)
  rcases hon with ⟨h1, h2⟩ | ⟨g, h1, h2⟩
  · rw [h1, h2]; exact hx
  · exact .inr ⟨g, h1, h2⟩
theorem BString_ok {R : Bs → World → Prop} {b : Addr} {bs : Bs} (h : SH o Γ w) [hb : Has (bld b) bs Γ Δ] (hl : bs.length ≤ 274877906944)
    (hR : ∀ w', SH o Δ w' → R bs w') : mcall P n_zf2m [(.pointer (some b))] .s R w := by
  apply zf2m_call
  obtain ⟨q, x, hq, hx, h⟩ := bld_open.1 (SH.take (f := bld b) h)
  refine mdraw_ok h fun w h => ?_
  refine mnil_ok ?_
  refine ld_fld h ?_
  refine mnil_ok ?_
  refine ld_fld h ?_
  refine slice_data hx ?_
  refine mst_fld h ?_
  refine unsafe_str h.drop hx (by kernel_rfl) (by omega) fun w h => ?_
  exact hR w h
end
end Go.Proofs.YtpjhflboedicpaaGreatDoor
namespace Go.Proofs.YtpjhflboedicpaaGreatDoor
open Go Go.W
set_option maxRecDepth 100000
section
variable {o : Fix} {Γ Δ : List Assn} {w : World}
theorem Put_ok {R : Bs → World → Prop} {n : Int} (hn : I64 n) (h : SH o Γ w) (hR : ∀ w', SH o Γ w' → R (vput n) w') : mcall P n_zf2g [(.int .i64 n)] .s R w := by
  apply zf2g_call
  refine alo_arr (n := 10) (k := .i .u8) (z := (0 : Int)) h (by kernel_rfl) fun a w hs h => ?_
  unfold zf2g_1
  rw [zig_text hn]
  refine loop_ok (fun (g : Bs × Nat) s w => s = ((g.2 : Int), (g.1.length : Int), ()) ∧ vput n = g.1 ++ put7 g.2 ∧ g.1.length + (put7 g.2).length ≤ 10 ∧
    ∃ rest : List Int, SH o (slO (arS a 10) zt1c (.i .u8) (intsOf g.1 ++ rest) :: Γ) w ∧ g.1.length + rest.length = 10) (fun g => g.2) ([], zig n)
    ⟨rfl, rfl, by have := vput_len hn; unfold vput at this; simpa using this, List.replicate 10 0, by simpa using h, by simp⟩ ?_
  rintro ⟨done, u⟩ _ w cont ⟨rfl, hv, hlen, rest, h, hr⟩ hc
  simp only at hv hlen h hr
  dsimp only
  obtain ⟨l, c, hl, _⟩ := put7_spec u
  have hpos : 1 ≤ (put7 u).length := by rw [hl]; simp
  refine mif_ok (fun h1 => ?_) (fun h1 => ?_)
  · have h1 : 128 ≤ u := by simp at h1; omega
    have e7 : put7 u = UInt8.ofNat (u % 128 + 128) :: put7 (u / 128) := by rw [put7]; rw [dif_neg (by omega)]
    refine ixa_arr hs (by omega) (by omega) fun e ea => ?_
    refine sto_el ea h (by simp; omega) fun w h => ?_
    simp only [ishr_u64_7]
    rw [w64_of (by omega) (by omega)]
    refine hc (done ++ [UInt8.ofNat (u % 128 + 128)], u / 128) _ w (by simp only; omega) ⟨by simp, by simp [hv, e7], ?_, rest.tail, ?_, ?_⟩
    · rw [e7] at hlen; simp at hlen ⊢; omega
    · have e8 : ior .u8 (wr8 (u : Int)) 128 = ((UInt8.ofNat (u % 128 + 128)).toNat : Int) := by rw [or128, toNat_ofNat8 (by omega)]
      have e9 := set_tail (intsOf done) rest (ior .u8 (wr8 (u : Int)) 128) (by rw [e7] at hlen; simp at hlen; omega)
      simp only [intsOf_length] at e9
      rw [Int.toNat_natCast, e9] at h
      simpa [intsOf, e8] using h
    · rw [e7] at hlen; simp at hlen ⊢; omega
  · have h1 : u < 128 := by simp at h1; omega
    have e7 : put7 u = [UInt8.ofNat u] := by rw [put7]; rw [dif_pos (by omega)]
    refine ixa_arr hs (by omega) (by omega) fun e ea => ?_
    refine sto_el ea h (by simp; omega) fun w h => ?_
    have e9 := set_tail (intsOf done) rest (wr8 (u : Int)) (by omega)
    simp only [intsOf_length] at e9
    rw [Int.toNat_natCast, e9] at h
    rw [w64_of (by omega) (by omega)]
    refine slc_arr (m := done.length + 1) (.inr ⟨_, rfl, by omega, by omega, by omega⟩) ?_ hs
    have hrd := h.rd (s := arS a 10)
    refine conv_bs (hrd.head (m := done.length + 1) (by simp)) ?_
    have e10 : bytesOf ((intsOf done ++ [wr8 (u : Int)] ++ rest.tail).take (done.length + 1)) = vput n := by
      have e11 : ((u : Int) % 256).toNat = u := by omega
      rw [List.take_left' (by simp), hv, e7, bytesOf_append, bytesOf_intsOf, wr8_eq]
      simp only [bytesOf, List.map_cons, List.map_nil, e11]
    rw [e10]
    exact hR w h.drop
def takeR (s : Bs) : Int × Bs × Int × Unit := match vtake s with | some (n, r) => (n, r, 0, ()) | none => (0, [], 2, ())
theorem takeR_some {s r : Bs} {n : Int} (h : vtake s = some (n, r)) : takeR s = (n, r, 0, ()) := by unfold takeR; rw [h]
theorem takeR_none {s : Bs} (h : vtake s = none) : takeR s = (0, [], 2, ()) := by unfold takeR; rw [h]
theorem Take_ok {R : (Int × Bs × Int × Unit) → World → Prop} {s : Bs} (hs : s.length ≤ 9223372036854775807) (h : SH o Γ w) (hR : ∀ w', SH o Γ w' → R (takeR s) w') : mcall P n_zf27 [(.string ⟨s.toArray⟩)] (.tup [I, .s, I]) R w := by
  apply zf27_call
  unfold zf27_0 zf27_1
  refine loop_ok (fun (g : Nat × Nat) (t : Int × Int × Unit) w => t.2 = ((g.1 : Int), ()) ∧ g.1 ≤ 10 ∧ g.1 ≤ s.length ∧ SH o Γ w ∧ vtk 0 0 s = vtk g.1 g.2 (s.drop g.1) ∧ (g.1 ≤ 9 → t.1 = (g.2 : Int) ∧ g.2 < 2 ^ (7 * g.1))) (fun g => 10 - g.1) (0, 0) ⟨rfl, by omega, by omega, h, rfl, fun _ => ⟨rfl, by simp⟩⟩ ?_
  rintro ⟨k, u⟩ ⟨t, k', _⟩ w cont ⟨h1, hk, hks, h, hv, hu⟩ hc
  simp only [Prod.mk.injEq, and_true] at h1 hk hks hv hu
  subst h1
  dsimp only
  have none_ok : vtk k u (s.drop k) = none → ∀ w', SH o Γ w' → R (0, [], 2, ()) w' := fun e w' h => by
    have := hR w' h
    rwa [takeR_none (by unfold vtake; rw [hv, e])] at this
  refine mif_ok (fun g1 => ?_) (fun g1 => ?_)
  · have : k = s.length := by simp at g1; omega
    exact none_ok (by rw [List.drop_eq_nil_of_le (by omega)]; rfl) w h
  have hlt : k < s.length := by simp at g1; omega
  have hd : s.drop k = s[k] :: s.drop (k + 1) := by rw [List.drop_eq_getElem_cons hlt]
  refine mif_ok (fun g2 => ?_) (fun g2 => ?_)
  · have : k = 10 := by simp at g2; omega
    exact none_ok (by rw [hd, vtk, if_pos this]) w h
  have hk9 : k ≤ 9 := by simp at g2; omega
  obtain ⟨rfl, hu2⟩ := hu hk9
  refine ixs_ok (b := s[k]) (by omega) (by simp [hlt]) ?_
  have ew : w64 (7 * (k : Int)) = 7 * (k : Int) := w64_of (by omega) (by omega)
  rw [ew]
  refine mng_ok (by omega) ?_
  have ek : w64 ((k : Int) + 1) = ((k + 1 : Nat) : Int) := w64_of (by omega) (by omega)
  have hc8 := s[k].toNat_lt
  rw [ek]
  have hcont : 128 ≤ s[k].toNat → vtk k u (s.drop k) = vtk (k + 1) (u + (s[k].toNat % 128) * 2 ^ (7 * k)) (s.drop (k + 1)) := fun hb => by
    rw [hd, vtk, if_neg (by omega), if_pos hb]
  have hstop : s[k].toNat < 128 → vtk k u (s.drop k) = if (1 ≤ k ∧ s[k].toNat = 0) ∨ (k = 9 ∧ 1 < s[k].toNat) then none else some (u + (s[k].toNat % 128) * 2 ^ (7 * k), s.drop (k + 1)) := fun hb => by
    rw [hd, vtk, if_neg (by omega), if_neg (by omega)]
  have hfin : s[k].toNat < 128 → ¬ (1 ≤ k ∧ s[k].toNat = 0) → ¬ (k = 9 ∧ 1 < s[k].toNat) →
      zf27_3 cont R s (ior .u64 u (ishl .u64 (wr64 (iand .u8 s[k].toNat 127)) (7 * (k : Int)))) ((k + 1 : Nat) : Int) w := by
    intro hb h2 h3
    have hop := or_place (k := k) (u := u) (c := s[k].toNat) (by omega) hu2 (by omega)
    rw [ew] at hop
    rw [hop.1]
    have hlt : u + s[k].toNat % 128 * 2 ^ (7 * k) < 2 ^ 64 := vtk_lt (s.drop k) k u _ (s.drop (k + 1)) (by omega) hu2 (by rw [hstop hb, if_neg (by omega)])
    refine mdraw_ok h fun w h => ?_
    refine sls_from (by omega) (by omega) ?_
    have := hR w h
    rw [takeR_some (n := unzig (u + s[k].toNat % 128 * 2 ^ (7 * k))) (r := s.drop (k + 1)) (by unfold vtake; rw [hv, hstop hb, if_neg (by omega)])] at this
    rw [unzig_text hlt]
    simpa using this
  refine mif_ok (fun g3 => ?_) (fun g3 => ?_)
  · have hb : 128 ≤ s[k].toNat := by simp at g3; omega
    refine hc (k + 1, u + s[k].toNat % 128 * 2 ^ (7 * k)) _ w (by simp only; omega) ⟨rfl, by simp only; omega, by simp only; omega, h, ?_, fun h9 => ?_⟩
    · simp only; rw [hv, hcont hb]
    · have hop := or_place (k := k) (u := u) (c := s[k].toNat) (by simp only at h9; omega) hu2 (by omega)
      rw [ew] at hop
      exact hop
  have hb : s[k].toNat < 128 := by simp at g3; omega
  refine mif_ok (fun g4 => ?_) (fun g4 => ?_)
  · have h1 : 1 ≤ k := by simp at g4; omega
    refine mif_ok (fun g5 => ?_) (fun g5 => ?_)
    · have : s[k].toNat = 0 := by simp at g5; omega
      exact none_ok (by rw [hstop hb, if_pos (.inl ⟨h1, this⟩)]) w h
    have h2 : s[k].toNat ≠ 0 := by simp at g5; omega
    refine mif_ok (fun g6 => ?_) (fun g6 => ?_)
    · have h9 : k = 9 := by simp at g6; omega
      refine mif_ok (fun g7 => ?_) (fun g7 => ?_)
      · exact none_ok (by rw [hstop hb, if_pos (.inr ⟨h9, by simp at g7; omega⟩)]) w h
      · exact hfin hb (by omega) (by simp at g7; omega)
    · exact hfin hb (by omega) (by simp at g6; omega)
  · have h1 : k = 0 := by simp at g4; omega
    refine mif_ok (fun g6 => ?_) (fun g6 => ?_)
    · simp at g6; omega
    · exact hfin hb (by omega) (by omega)
theorem PutText_ok {R : Bs → World → Prop} {s : Bs} (hs : s.length ≤ 1099511627000) (h : SH o Γ w) (hR : ∀ w', SH o Γ w' → R (ptext s) w') : mcall P n_zf3u [(.string ⟨s.toArray⟩)] .s R w := by
  apply zf3u_call
  refine Put_ok ⟨by omega, by omega⟩ h fun w h => ?_
  have := vput_len (n := s.length) ⟨by omega, by omega⟩
  refine mcat_ok (by omega) ?_
  exact hR w h
def ttextR (s : Bs) (most : Int) : Bs × Bs × Int × Unit := match ttext s most with | some (x, r) => (x, r, 0, ()) | none => ([], [], 2, ())
theorem ttextR_some {s x r : Bs} {most : Int} (h : ttext s most = some (x, r)) : ttextR s most = (x, r, 0, ()) := by unfold ttextR; rw [h]
theorem ttextR_none {s : Bs} {most : Int} (h : ttext s most = none) : ttextR s most = ([], [], 2, ()) := by unfold ttextR; rw [h]
theorem TakeText_ok {R : (Bs × Bs × Int × Unit) → World → Prop} {s : Bs} {most : Int} (hs : s.length ≤ 9223372036854775807) (h : SH o Γ w) (hR : ∀ w', SH o Γ w' → R (ttextR s most) w') :
    mcall P n_zf47 [(.string ⟨s.toArray⟩), (.int .i64 most)] (.tup [.s, .s, I]) R w := by
  apply zf47_call
  refine Take_ok hs h fun w h => ?_
  cases e : vtake s with
  | none =>
    rw [takeR_none e]
    refine mif_ok (fun g1 => ?_) (fun g1 => ?_)
    · have := hR w h
      rwa [ttextR_none (by unfold ttext; rw [e])] at this
    · simp at g1
  | some x =>
    obtain ⟨n, r⟩ := x
    have hbad : (n < 0 ∨ most < n ∨ (r.length : Int) < n) → R ([], [], 2, ()) w := fun hb => by
      have := hR w h
      rwa [ttextR_none (by unfold ttext; rw [e]; simp [hb])] at this
    rw [takeR_some e]
    refine mif_ok (fun g1 => ?_) (fun g1 => ?_)
    · simp at g1
    refine mif_ok (fun g2 => ?_) (fun g2 => ?_)
    · exact hbad (.inl (by simpa using g2))
    refine mif_ok (fun g3 => ?_) (fun g3 => ?_)
    · exact hbad (.inr (.inl (by simpa using g3)))
    refine mif_ok (fun g4 => ?_) (fun g4 => ?_)
    · exact hbad (.inr (.inr (by simpa using g4)))
    simp at g2 g3 g4
    refine mdraw_ok h fun w h => ?_
    refine sls_to g2 g4 ?_
    refine sls_from g2 g4 ?_
    have := hR w h
    rwa [ttextR_some (x := r.take n.toNat) (r := r.drop n.toNat) (by unfold ttext; rw [e]; simp; omega)] at this
theorem PutAll_ok {R : Bs → World → Prop} {l : Sl} {xs : List Int} (h : SH o Γ w) [hr : RdS l I xs Γ] (hx : ∀ n ∈ xs, I64 n) (hl : xs.length ≤ 4096) (hR : ∀ w', SH o Γ w' → R (putAll xs) w') :
    mcall P n_zf2f [(Sl.v l)] .s R w := by
  apply zf2f_call
  have hlen := h.len (s := l)
  refine alo_ok h fun b w h => ?_
  have h := bld_new (tE := zt3) h
  unfold zf2f_1 zf2f_3 zf2f_4
  refine loop_ok (fun (i : Nat) t w => t = ((i : Int), ()) ∧ i ≤ xs.length ∧ SH o (bld b (putAll (xs.take i)) :: Γ) w) (fun i => xs.length - i) 0 ⟨rfl, by omega, by simpa [putAll] using h⟩ ?_
  rintro i _ w cont ⟨rfl, hi, h⟩ hc
  dsimp only
  have hpl : (putAll (xs.take i)).length ≤ 40960 := by
    have := putAll_len (l := xs.take i) fun n hn => hx n (List.mem_of_mem_take hn)
    simp at this; omega
  refine mif_ok (fun g1 => ?_) (fun g1 => ?_)
  · have hlt : i < xs.length := by simp at g1; omega
    refine ixa_ok h (by omega) (by omega) fun e ea => ?_
    refine ld_el ea h (List.getElem?_eq_getElem hlt) ?_
    have hn := hx xs[i] (List.getElem_mem hlt)
    refine Put_ok hn h fun w h => ?_
    have := vput_len hn
    refine WriteString_ok h (by omega) fun r w h => ?_
    rw [w64_of (by omega) (by omega)]
    refine hc (i + 1) _ w (by omega) ⟨rfl, hlt, ?_⟩
    have e1 : putAll (xs.take (i + 1)) = putAll (xs.take i) ++ vput xs[i] := by
      simp only [putAll, List.take_add_one, List.getElem?_eq_getElem hlt, Option.toList, List.flatMap_append, List.flatMap_cons, List.flatMap_nil, List.append_nil]
    rw [e1]; exact h
  · have hi' : i = xs.length := by simp at g1; omega
    subst hi'
    rw [List.take_length] at h hpl
    refine BString_ok h (by omega) fun w h => ?_
    exact hR w h
theorem TakeAll_ok {R : (Sl × Bs × Int × Unit) → World → Prop} {s : Bs} {n : Nat} (hs : s.length ≤ 9223372036854775807) (hn : n ≤ 64) (h : SH o Γ w)
    (hR : ∀ l xs r w', takeAll n s = some (xs, r) → SH o (slO l zt1 I xs :: Γ) w' → R (l, r, 0, ()) w')
    (hN : ∀ w', takeAll n s = none → SH o Γ w' → R (⟨none, 0, 0⟩, [], 2, ()) w') : mcall P n_zf2z [(.string ⟨s.toArray⟩), (.int .i64 (n : Int))] (.tup [.sl, .s, I]) R w := by
  apply zf2z_call
  refine mif_ok (fun g1 => ?_) (fun g1 => ?_)
  · simp at g1; omega
  refine mif_ok (fun g2 => ?_) (fun g2 => ?_)
  · simp at g2; omega
  have h := h.nilS zt1 I
  unfold zf2z_1 zf2z_3 zf2z_4
  refine loop_ok (fun (g : List Int × Bs) t w => ∃ l, t = (g.2, l, (g.1.length : Int), ()) ∧ g.1.length ≤ n ∧ g.2.length ≤ s.length ∧ SH o (slO l zt1 I g.1 :: Γ) w ∧
      takeAll n s = (match takeAll (n - g.1.length) g.2 with | some (ys, r) => some (g.1 ++ ys, r) | none => none)) (fun g => n - g.1.length) ([], s)
    ⟨_, rfl, by simp, by simp, h, by simp; cases takeAll n s <;> rfl⟩ ?_
  rintro ⟨xs, r⟩ _ w cont ⟨l, rfl, hi, hr, h, ht⟩ hc
  simp only at hi hr h ht
  dsimp only
  refine mif_ok (fun g1 => ?_) (fun g1 => ?_)
  · have hlt : xs.length < n := by simp at g1; omega
    obtain ⟨m, hm⟩ : ∃ m, n - xs.length = m + 1 := ⟨n - xs.length - 1, by omega⟩
    rw [hm, takeAll] at ht
    refine Take_ok (by omega) h fun w h => ?_
    cases e : vtake r with
    | none =>
      rw [takeR_none e]
      refine mif_ok (fun g2 => ?_) (fun g2 => ?_)
      · exact hN w (by rw [ht, e]) h.drop
      · simp at g2
    | some y =>
      obtain ⟨k, r'⟩ := y
      rw [takeR_some e]
      refine mif_ok (fun g2 => ?_) (fun g2 => ?_)
      · simp at g2
      refine bsl_ok h fun u w h => ?_
      refine app_ok h.swap (by simp; omega) (fun y _ => okV_plain rfl y) fun v w h => ?_
      rw [w64_of (by omega) (by omega)]
      have := vtake_len e
      refine hc (xs ++ [k], r') _ w (by simp; omega) ⟨v, by simp, by simp; omega, by simp only; omega, h.swap.drop, ?_⟩
      simp only [List.length_append, List.length_cons, List.length_nil]
      rw [ht, e, show n - (xs.length + 1) = m by omega]
      simp only []
      cases takeAll m r' with
      | none => rfl
      | some z => simp
  · have hi' : xs.length = n := by simp at g1; omega
    have : takeAll n s = some (xs, r) := by rw [ht, show n - xs.length = 0 by omega]; simp [takeAll]
    exact hR l xs r w this h
end
end Go.Proofs.YtpjhflboedicpaaGreatDoor
namespace Go.Proofs.YtpjhflboedicpaaGreatDoor
open Go Go.W
set_option maxRecDepth 100000
section
variable {o : Fix} {Γ Δ : List Assn} {w : World}
theorem step_ok {R : Int → World → Prop} {r : Int} (hR : R (crcStep r) w) : mcall P n_zf51 [(.int .u32 r)] (.i .u32) R w := by
  apply zf51_call
  refine mif_ok (fun h1 => ?_) (fun h1 => ?_)
  · rw [crcStep, if_pos h1] at hR; exact hR
  · rw [crcStep, if_neg (by rw [h1]; decide)] at hR; exact hR
theorem More_ok {R : Int → World → Prop} {s : Bs} (hs : s.length ≤ 1099511627000) (hR : R (crcOf s) w) : mcall P n_zf4m [(.int .u32 0), (.string ⟨s.toArray⟩)] (.i .u32) R w := by
  apply zf4m_call
  unfold zf4m_0 zf4m_1 zf4m_3 zf4m_4
  refine loop_ok (fun (i : Nat) (t : Int × Int × Unit) w' => t = ((s.take i).foldl crcByte (inot .u32 0), (i : Int), ()) ∧ i ≤ s.length ∧ w' = w) (fun i => s.length - i) 0 ⟨by simp, by omega, rfl⟩ ?_
  rintro i _ w' cont ⟨rfl, hi, rfl⟩ hc
  dsimp only
  refine mif_ok (fun g1 => ?_) (fun g1 => ?_)
  · have hlt : i < s.length := by simp at g1; omega
    refine ixs_ok (b := s[i]) (by omega) (by simp [hlt]) ?_
    unfold zf4m_9
    refine loop_ok (fun (j : Nat) (t : Int × Int × Unit) w'' => t = (Nat.rec (ixor .u32 ((s.take i).foldl crcByte (inot .u32 0)) (wr32 s[i].toNat)) (fun _ x => crcStep x) j, (j : Int), ()) ∧ j ≤ 8 ∧ w'' = w') (fun j => 8 - j) 0 ⟨rfl, by omega, rfl⟩ ?_
    rintro j _ w'' cont2 ⟨rfl, hj, rfl⟩ hc2
    dsimp only
    refine mif_ok (fun g2 => ?_) (fun g2 => ?_)
    · have hj8 : j < 8 := by simp at g2; omega
      refine step_ok ?_
      rw [w64_of (by omega) (by omega)]
      exact hc2 (j + 1) _ _ (by omega) ⟨rfl, by omega, rfl⟩
    · have hj8 : j = 8 := by simp at g2; omega
      subst hj8
      unfold zf4m_7
      rw [w64_of (by omega) (by omega)]
      refine hc (i + 1) _ _ (by omega) ⟨?_, by omega, rfl⟩
      have e1 : (s.take (i + 1)).foldl crcByte (inot .u32 0) = crcByte ((s.take i).foldl crcByte (inot .u32 0)) s[i] := by
        rw [List.take_add_one, List.getElem?_eq_getElem hlt, List.foldl_append]; rfl
      rw [e1]; rfl
  · have hi' : i = s.length := by simp at g1; omega
    subst hi'
    rw [List.take_length]
    exact hR
theorem Seal_ok {R : Bs → World → Prop} {s : Bs} (hs : s.length ≤ 1099511627000) (h : SH o Γ w) (hR : ∀ w', SH o Γ w' → R (sealed s) w') : mcall P n_zf2l [(.string ⟨s.toArray⟩)] .s R w := by
  apply zf2l_call
  have hsum : ∀ {K : Int → World → Prop} {w : World}, K (crcOf s) w → mcall P n_zf3v [(.string ⟨s.toArray⟩)] (.i .u32) K w := fun hK => by
    apply zf3v_call
    exact More_ok hs hK
  refine hsum ?_
  refine bsl_ok h fun x w h => ?_
  refine conv_bs (h.rd (s := x)) ?_
  refine mcat_ok (by simp; omega) ?_
  exact hR w h.drop
def unsealR (s : Bs) : Bs × Int × Unit := match unsealed s with | some t => (t, 0, ()) | none => ([], 2, ())
theorem Unseal_ok {R : (Bs × Int × Unit) → World → Prop} {s : Bs} (hs : s.length ≤ 1099511627000) (h : SH o Γ w) (hR : ∀ w', SH o Γ w' → R (unsealR s) w') : mcall P n_zf2x [(.string ⟨s.toArray⟩)] (.tup [.s, I]) R w := by
  apply zf2x_call
  have no : ∀ w', ¬ (4 ≤ s.length ∧ sealed (s.take (s.length - 4)) = s) → SH o Γ w' → R ([], 2, ()) w' := fun w' hn h => by
    have := hR w' h
    unfold unsealR unsealed at this
    rwa [if_neg hn] at this
  have e4 : w64 ((s.length : Int) - 4) = (s.length : Int) - 4 := w64_of (by omega) (by omega)
  unfold zf2x_0
  rw [e4]
  refine mif_ok (fun g1 => ?_) (fun g1 => ?_)
  · have h4 : 4 ≤ s.length := by simp at g1; omega
    have en : ((s.length : Int) - 4).toNat = s.length - 4 := by omega
    refine sls_to (by omega) (by omega) ?_
    rw [en]
    refine Seal_ok (by simp; omega) h fun w h => ?_
    refine mif_ok (fun g2 => ?_) (fun g2 => ?_)
    · have g2 : sealed (s.take (s.length - 4)) = s := by simpa using g2
      refine sls_to (by omega) (by omega) ?_
      rw [en]
      have := hR w h
      unfold unsealR unsealed at this
      rwa [if_pos ⟨h4, g2⟩] at this
    · exact no w (fun hn => by simp [hn.2] at g2) h
  · exact no w (fun hn => by simp at g1; omega) h
theorem fCheck_ok {R : Int → World → Prop} {e : Ent} (h : SH o Γ w) (hR : ∀ w', SH o Γ w' → R (if fcheck e then 0 else 1) w') : mcall P n_zf4y [KV zk2 e] I R w := by
  apply zf4y_call
  have no : ∀ w', ¬ fcheck e = true → SH o Γ w' → R 1 w' := fun w' hn h => by have := hR w' h; rwa [if_neg hn] at this
  refine bx_ok h fun a w h => ?_
  refine ld_fld0 h ?_
  refine mif_ok (fun h1 => ?_) (fun h1 => ?_) <;> simp at h1
  · exact no _ (by simp [fcheck]; omega) h.drop
  refine ld_fld0 h ?_
  refine mif_ok (fun h2 => ?_) (fun h2 => ?_) <;> simp at h2
  · exact no _ (by simp [fcheck]; omega) h.drop
  refine ld_fld h ?_
  refine mif_ok (fun h3 => ?_) (fun h3 => ?_) <;> simp at h3
  · exact no _ (by simp [fcheck]; omega) h.drop
  refine ld_fld h ?_
  refine mif_ok (fun h4 => ?_) (fun h4 => ?_) <;> simp at h4
  · exact no _ (by simp [fcheck]; omega) h.drop
  refine ld_fld h ?_
  refine mif_ok (fun h5 => ?_) (fun h5 => ?_) <;> simp at h5
  · exact no _ (by simp [fcheck]; omega) h.drop
  have := hR _ h.drop
  rwa [if_pos (by simp [fcheck]; omega)] at this
theorem Lay_ok {R : (Bs × Int × Unit) → World → Prop} {e : Ent} (h : SH o Γ w) (hR : ∀ w', SH o Γ w' → R (if fcheck e then (flay e, 0, ()) else ([], 1, ())) w') : mcall P n_zf4h [KV zk2 e] (.tup [.s, I]) R w := by
  apply zf4h_call
  refine bx_ok h fun a w h => ?_
  refine ld_fld0 h ?_
  refine fCheck_ok h fun w h => ?_
  refine mif_ok (fun h1 => ?_) (fun h1 => ?_)
  · have hn : ¬ fcheck e = true := by intro hc; simp [hc] at h1
    have := hR w h.drop
    rw [if_neg hn] at this ⊢
    exact this
  · have hc : fcheck e = true := by
      cases hc : fcheck e with
      | true => rfl
      | false => simp [hc] at h1
    have hb := fbody_len hc
    have hc' := hc
    simp only [fcheck, decide_eq_true_eq] at hc'
    refine mdraw_ok h fun w h => ?_
    refine ld_fld0 h ?_
    refine ld_fld h ?_
    refine ld_fld h ?_
    refine bsl_ok h fun x w h => ?_
    refine mst_fld h ?_
    refine PutAll_ok h (by intro n hn; simp at hn; rcases hn with rfl | rfl <;> constructor <;> omega) (by simp) fun w h => ?_
    refine mst_fld h ?_
    simp only [List.length_append] at hb
    refine mcat_ok (by omega) ?_
    refine PutText_ok (by simp only [List.length_append]; omega) h fun w h => ?_
    have := vput_len (n := (putAll [e.1, e.2.1] ++ e.2.2.1).length) ⟨by omega, by simp only [List.length_append]; omega⟩
    refine Seal_ok (by unfold ptext; simp only [List.length_append] at this ⊢; omega) h fun w h => ?_
    have := hR w h.drop.drop
    rw [if_pos hc] at this
    exact this
def ftakeR (s : Bs) : Ent × Bs × Int × Unit := match ftake s with | some (e, r) => (e, r, 0, ()) | none => ((0, 0, [], ()), [], 2, ())
theorem ftakeR_some {s r : Bs} {e : Ent} (h : ftake s = some (e, r)) : ftakeR s = (e, r, 0, ()) := by unfold ftakeR; rw [h]
theorem ftakeR_none {s : Bs} (h : ftake s = none) : ftakeR s = ((0, 0, [], ()), [], 2, ()) := by unfold ftakeR; rw [h]
theorem FTake_ok {R : (zT2 × Bs × Int × Unit) → World → Prop} {s : Bs} (hs : s.length ≤ 1099511620000) (h : SH o Γ w) (hR : ∀ w', SH o Γ w' → R (ftakeR s) w') :
    mcall P n_zf4b [(.string ⟨s.toArray⟩)] (.tup [zk2, .s, I]) R w := by
  apply zf4b_call
  refine alo_ok h fun a w h => ?_
  refine TakeText_ok (by omega) h fun w h => ?_
  have no : ∀ {Γ' : List Assn} {w'} {x : zT2} (hn : ftake s = none), SH o (vr a zty zk2 x :: Γ) w' →
      sto P zty a zk2 (0, 0, [], ()) (ld P zty a zk2 fun (x3 : zT2) => R (x3, [], 2, ())) w' := fun hn h => by
    refine sto_fld0 h fun w h => ?_
    refine ld_fld0 h ?_
    have := hR w h.drop
    rwa [ftakeR_none hn] at this
  cases e1 : ttext s 131072 with
  | none =>
    rw [ttextR_none e1]
    refine mif_ok (fun g1 => ?_) (fun g1 => ?_)
    · exact no (Γ' := []) (by unfold ftake; rw [e1]) h
    · simp at g1
  | some y =>
    obtain ⟨b0, rest⟩ := y
    have hl := ttext_len e1
    rw [ttextR_some e1]
    refine mif_ok (fun g1 => ?_) (fun g1 => ?_)
    · simp at g1
    refine mif_ok (fun g2 => ?_) (fun g2 => ?_)
    · have : rest.length < 4 := by simp at g2; omega
      exact no (Γ' := []) (by unfold ftake; rw [e1]; simp only []; rw [if_pos this]) h
    have h4 : ¬ rest.length < 4 := by simp at g2; omega
    have ew : w64 ((w64 ((s.length : Int) - (rest.length : Int))) + 4) = ((s.length - rest.length + 4 : Nat) : Int) := by
      rw [w64_of (x := (s.length : Int) - (rest.length : Int)) (by omega) (by omega), w64_of (by omega) (by omega)]; omega
    dsimp only
    rw [ew]
    refine sls_to (by omega) (by omega) ?_
    rw [Int.toNat_natCast]
    refine Unseal_ok (by simp; omega) h fun w h => ?_
    unfold unsealR
    cases e2 : unsealed (s.take (s.length - rest.length + 4)) with
    | none =>
      refine mif_ok (fun g3 => ?_) (fun g3 => ?_)
      · exact no (Γ' := []) (by unfold ftake; rw [e1]; simp only []; rw [if_neg h4, e2]) h
      · simp at g3
    | some t =>
      have ht : t.length ≤ s.length := by
        unfold unsealed at e2
        split at e2
        · cases e2; simp; omega
        · cases e2
      refine mif_ok (fun g3 => ?_) (fun g3 => ?_)
      · simp at g3
      refine TakeText_ok (by simp only; omega) h fun w h => ?_
      obtain ⟨b, hb, hbl, hbody⟩ : ∃ b : Bs, (ttextR t t.length).1 = b ∧ b.length ≤ t.length ∧ fst0 (ttext t t.length) = b := by
        refine ⟨_, rfl, ?_, ?_⟩
        · cases e3 : ttext t t.length with
          | none => rw [ttextR_none e3]; simp
          | some z => obtain ⟨z1, z2⟩ := z; rw [ttextR_some e3]; have := ttext_len e3; simp only; omega
        · cases e3 : ttext t t.length with
          | none => rw [ttextR_none e3]; rfl
          | some z => obtain ⟨z1, z2⟩ := z; rw [ttextR_some e3]; rfl
      dsimp only
      rw [hb]
      refine TakeAll_ok (n := 2) (by omega) (by omega) h (fun l xs r w e3 h => ?_) (fun w e3 h => ?_)
      · obtain ⟨hx1, hx2, hx3⟩ := takeAll_len _ _ _ _ e3
        obtain ⟨x, y, rfl⟩ : ∃ x y, xs = [x, y] := by
          match xs, hx1 with
          | [x, y], _ => exact ⟨x, y, rfl⟩
        refine mif_ok (fun g4 => ?_) (fun g4 => ?_)
        · simp at g4
        have hlen := h.len (s := l)
        simp only [List.length_cons, List.length_nil] at hlen
        refine mdraw_ok h fun w h => ?_
        refine ixa_ok h (by omega) (by simp only; omega) fun p0 ea0 => ?_
        refine ld_el ea0 h rfl ?_
        refine ixa_ok h (by omega) (by simp only; omega) fun p1 ea1 => ?_
        refine ld_el ea1 h rfl ?_
        refine alo_ok h fun a2 w h => ?_
        refine mst_el ea1 h rfl ?_
        refine mst_ixa h ea1 (by omega) (by simp only; omega) ?_
        refine mst_el ea0 h rfl ?_
        refine mst_ixa h ea0 (by omega) (by simp only; omega) ?_
        refine sto_fld0 h fun w h => ?_
        refine ld_fld0 h ?_
        refine fCheck_ok h fun w h => ?_
        have hft : ftake s = match fcheck (x, y, r, ()) with | true => some ((x, y, r, ()), rest.drop 4) | false => none := by
          unfold ftake; rw [e1]; simp only []; rw [if_neg h4, e2]; simp only []; rw [hbody, e3]; rfl
        cases hc : fcheck (x, y, r, ()) with
        | true =>
          rw [hc] at hft
          refine mif_ok (fun g5 => ?_) (fun g5 => ?_)
          · simp at g5
          refine mdraw_ok h fun w h => ?_
          refine ld_fld0 h ?_
          refine sls_from (by omega) (by omega) ?_
          refine sto_fld0 h fun w h => ?_
          refine mst_from (by omega) (by omega) ?_
          refine ld_fld0 h ?_
          have := hR w h.drop.drop.drop
          rw [ftakeR_some hft] at this
          exact this
        | false =>
          rw [hc] at hft
          refine mif_ok (fun g5 => ?_) (fun g5 => ?_)
          · exact no (Γ' := []) hft (h.drop.drop)
          · simp at g5
      · refine mif_ok (fun g4 => ?_) (fun g4 => ?_)
        · exact no (Γ' := []) (by unfold ftake; rw [e1]; simp only []; rw [if_neg h4, e2]; simp only []; rw [hbody, e3]) h
        · simp at g4
end
end Go.Proofs.YtpjhflboedicpaaGreatDoor
namespace Go.Proofs.YtpjhflboedicpaaGreatDoor
open Go Go.W
set_option maxRecDepth 100000
section
variable {o : Fix} {Γ Δ : List Assn} {w : World}
theorem Each_ok {R : Unit → World → Prop} {Y : Value} {v : Addr} {s0 : Bs} (I J : List (Int × Ent) → List Assn) (hs : s0.length ≤ 274877906000) (h : SH o (vr v zt4 .s s0 :: I []) w)
    (hy : ∀ (pre : List (Int × Ent)) (x : Int × Ent) (rest : List (Int × Ent)) (A : Assn) (w : World) (K : Bool → World → Prop), rowM s0 = pre ++ x :: rest → SH o (A :: I pre) w →
      (∀ w', SH o (A :: I (pre ++ [x])) w' → K true w') → (∀ w', SH o (A :: J (pre ++ [x])) w' → K false w') → mdyn P Y [.int .i64 x.1, KV zk2 x.2] .b K w)
    (hR : ∀ w', SH o (I (rowM s0)) w' → R () w') (hJ : ∀ pre rest w', rowM s0 = pre ++ rest → SH o (J pre) w' → R () w') : mcall P n_zf4a [Y, .pointer (some v)] (.tup []) R w := by
  apply zf4a_call
  unfold zf4a_0 zf4a_1
  refine loop_ok (fun (g : List (Int × Ent) × Bs) t w => rowM s0 = g.1 ++ rowM g.2 ∧ g.2.length ≤ s0.length ∧ SH o (vr v zt4 .s g.2 :: I g.1) w) (fun g => g.2.length) ([], s0) ⟨rfl, by simp, h⟩ ?_
  rintro ⟨pre, s⟩ _ w cont ⟨hr, hl, h⟩ hc
  simp only at hr hl h
  refine ld_fld0 h ?_
  refine FTake_ok (by omega) h fun w h => ?_
  cases e : ftake s with
  | none =>
    rw [ftakeR_none e]
    refine alo_ok h fun a w h => ?_
    refine sto_fld0 h fun w h => ?_
    refine mif_ok (fun g1 => ?_) (fun g1 => ?_)
    · rw [rowM_none e, List.append_nil] at hr
      exact hR w (by rw [hr]; exact h.drop.drop)
    · simp at g1
  | some y =>
    obtain ⟨x, r⟩ := y
    have hrl := ftake_len e
    rw [rowM_some e] at hr
    rw [ftakeR_some e]
    refine alo_ok h fun a w h => ?_
    refine sto_fld0 h fun w h => ?_
    refine mif_ok (fun g1 => ?_) (fun g1 => ?_)
    · simp at g1
    refine ld_fld0 h ?_
    refine ld_fld0 h ?_
    dsimp only
    rw [w64_of (by omega) (by omega)]
    refine hy pre ((s.length : Int) - r.length, x) (rowM r) _ w _ hr h.drop (fun w h => ?_) (fun w h => ?_)
    · refine mif_ok (fun g2 => ?_) (fun g2 => ?_)
      · cases g2
      refine sto_fld0 h fun w h => ?_
      exact hc (pre ++ [((s.length : Int) - r.length, x)], r) _ w (by simpa using hrl) ⟨by simp [hr], by simp only; omega, h⟩
    · refine mif_ok (fun g2 => ?_) (fun g2 => ?_)
      · exact hJ _ (rowM r) w (by simp [hr]) h.drop
      · cases g2
end
end Go.Proofs.YtpjhflboedicpaaGreatDoor
namespace Go.Proofs.YtpjhflboedicpaaGreatDoor
open Go Go.W
set_option maxRecDepth 100000
structure MayP (b : zT1) (rs : List Rec) : Prop where
  pid : 0 ≤ b.2.1 ∧ b.2.1 ≤ 8
  epoch : inB b.2.2.1 = true
  seq : inB b.2.2.2.1 = true
  len : rs.length ≤ 64
  all : rs.all mayRec = true
  kind : (b.1 = 1 ∧ 0 < rs.length ∧ (0 < b.2.1 ∧ 0 < b.2.2.1 ∨ b.2.1 = 0 ∧ b.2.2.1 = 0 ∧ b.2.2.2.1 = 0)) ∨ (b.1 = 2 ∧ 0 < rs.length ∧ 0 < b.2.1 ∧ 0 < b.2.2.1) ∨
    ((b.1 = 3 ∨ b.1 = 4) ∧ rs.length = 0 ∧ (0 < b.2.1 ∧ 0 < b.2.2.1) ∧ b.2.2.2.1 = 0)
section
variable {o : Fix} {Γ Δ : List Assn} {w : World}
theorem IndexFunc_int_ok {R : Int → World → Prop} {l : Sl} {xs : List Int} {f : Value} {p : Int → Bool} (h : SH o Γ w) [hr : RdS l I xs Γ] (hl : xs.length ≤ 9223372036854775807)
    (hf : ∀ x w (K : Bool → World → Prop), x ∈ xs → SH o Γ w → (∀ w', SH o Γ w' → K (p x) w') → mdyn P f [.int .i64 x] .b K w)
    (hR : ∀ r w', (xs.any p = true ↔ 0 ≤ r) → SH o Γ w' → R r w') : mcall P n_zf28 [(Sl.v l), f] I R w := by
  apply zf28_call
  have hlen := h.len (s := l)
  unfold zf28_0 zf28_1 zf28_3 zf28_4
  refine loop_ok (fun (i : Nat) t w => t = ((i : Int), ()) ∧ i ≤ xs.length ∧ (xs.take i).any p = false ∧ SH o Γ w) (fun i => xs.length - i) 0 ⟨rfl, by omega, by simp, h⟩ ?_
  rintro i _ w cont ⟨rfl, hi, ha, h⟩ hc
  dsimp only
  refine mif_ok (fun g1 => ?_) (fun g1 => ?_)
  · have hlt : i < xs.length := by simp at g1; omega
    refine ixa_ok h (by omega) (by omega) fun e ea => ?_
    refine ld_el ea h (List.getElem?_eq_getElem hlt) ?_
    refine hf _ w _ (List.getElem_mem hlt) h fun w h => ?_
    refine mif_ok (fun g2 => ?_) (fun g2 => ?_)
    · refine hR _ w (iff_of_true ?_ (by omega)) h
      exact List.any_eq_true.2 ⟨xs[i], List.getElem_mem hlt, g2⟩
    · rw [w64_of (by omega) (by omega)]
      refine hc (i + 1) _ w (by omega) ⟨rfl, hlt, ?_, h⟩
      rw [List.take_add_one, List.getElem?_eq_getElem hlt, List.any_append, ha]; simp [g2]
  · have hi' : i = xs.length := by simp at g1; omega
    subst hi'
    rw [List.take_length] at ha
    exact hR _ w (iff_of_false (by simp [ha]) (by decide)) h
theorem within_ok {R : Bool → World → Prop} {l : Sl} {xs : List Int} (h : SH o Γ w) [hr : RdS l I xs Γ] (hl : xs.length ≤ 9223372036854775807) (hR : ∀ w', SH o Γ w' → R (xs.all inB) w') : mcall P n_zf4c [(Sl.v l)] .b R w := by
  apply zf4c_call
  show mcall P n_zf25 [(Sl.v l), (.func (.func n_zf4z) #[] #[])] .b (fun (x1 : Bool) => R (!x1)) w
  apply zf25_call
  refine IndexFunc_int_ok (p := fun x => !inB x) h hl (fun x w K _ h hK => ?_) fun r w hr h => ?_
  · show mcall P n_zf4z [.int .i64 x] .b K w
    apply zf4z_call
    have := hK w h
    refine mif_ok (fun g1 => ?_) (fun g1 => ?_)
    · have e : (!inB x) = true := by simp [inB] at g1 ⊢; omega
      rwa [e] at this
    · have e : (!inB x) = decide (x > 1099511627776) := by rw [Bool.eq_iff_iff]; simp [inB] at g1 ⊢; omega
      rwa [e] at this
  · have e : (!decide (r ≥ 0)) = xs.all inB := by
      have : xs.all inB = !xs.any fun x => !inB x := by simp [List.all_eq_not_any_not]
      rw [this]
      congr 1
      cases ha : xs.any fun x => !inB x with
      | true => rw [ha] at hr; simpa using hr
      | false => rw [ha] at hr; simp at hr; simp; omega
    show R (!decide (r ≥ 0)) w
    rw [e]; exact hR w h
theorem may_ok {R : Bool → World → Prop} {r : Rec} (h : SH o Γ w) (hR : ∀ w', SH o Γ w' → R (mayRec r) w') : mcall P n_zf48 [KV zk2 r] .b R w := by
  apply zf48_call
  refine bx_ok h fun a w h => ?_
  refine ld_fld0 h ?_
  refine ld_fld h ?_
  refine bsl_ok h fun x w h => ?_
  refine within_ok h (by simp) fun w h => ?_
  have no : ¬ mayRec r = true → R false w := fun hn => by
    have := hR w h.drop.drop
    rwa [show mayRec r = false by simpa using hn] at this
  have hall : [r.1, r.2.1].all inB = (inB r.1 && inB r.2.1) := by simp
  rw [hall]
  refine mif_ok (fun g1 => ?_) (fun g1 => ?_)
  · refine ld_fld0 h ?_
    refine mif_ok (fun g2 => ?_) (fun g2 => ?_)
    · refine ld_fld h ?_
      have := hR w h.drop.drop
      have e : mayRec r = decide ((r.2.2.1.length : Int) ≤ 512) := by
        simp [inB] at g1 g2
        simp [mayRec, inB]
        rw [Bool.eq_iff_iff]; simp; omega
      rwa [e] at this
    · exact no fun hm => by have := mayRec_spec hm; simp at g2; omega
  · exact no fun hm => by have := mayRec_spec hm; simp [inB] at g1; omega
theorem Len_ok {R : Int → World → Prop} {b : zT1} (h : SH o Γ w) (hR : ∀ w', SH o Γ w' → R (mx 1 (b.2.2.2.2.1.len : Int)) w') : mcall P n_zf1u [KV zk1 b] I R w := by
  apply zf1u_call
  refine bx_ok h fun a w h => ?_
  refine ld_fld h ?_
  exact hR w h.drop
theorem bCheck_ok {R : Int → World → Prop} {b : zT1} {rs : List Rec} (h : SH o Γ w) [hr : RdS b.2.2.2.2.1 zk2 rs Γ] (hl : rs.length ≤ 9223372036854775807) (hR : ∀ w', SH o Γ w' → R (if bmay b.1 b.2.1 b.2.2.1 b.2.2.2.1 rs then 0 else 1) w') :
    mcall P n_zf3a [KV zk1 b] I R w := by
  apply zf3a_call
  have hlen := h.len (s := b.2.2.2.2.1)
  refine bx_ok h fun a w h => ?_
  refine ld_fld h ?_
  refine ld_fld h ?_
  refine ld_fld h ?_
  refine bsl_ok h fun x w h => ?_
  refine within_ok h (by simp) fun w h => ?_
  have h := h.drop
  have hall : [b.2.1, b.2.2.1, b.2.2.2.1].all inB = (inB b.2.1 && (inB b.2.2.1 && inB b.2.2.2.1)) := by simp
  rw [hall]
  have key5 : ∀ (ok : Bool) w, ok = bmay b.1 b.2.1 b.2.2.1 b.2.2.2.1 rs → SH o Γ w → zf3a_5 R ok w := by
    intro ok w hok h
    have := hR w h
    rw [← hok] at this
    refine mif_ok (fun g => ?_) (fun g => ?_)
    · have : ok = false := by simpa using g
      subst this; simpa using this
    · have : ok = true := by simpa using g
      subst this; simpa using this
  have key1 : ∀ (ok : Bool) w, ok = (inB b.2.1 && (inB b.2.2.1 && inB b.2.2.2.1) && decide (b.2.1 ≤ 8) && decide (rs.length ≤ 64)) → SH o (vr a ztj zk1 b :: Γ) w → zf3a_1 R a ok w := by
    intro ok w hok h
    unfold zf3a_1 zf3a_6
    refine ld_fld h ?_
    unfold zf3a_7
    refine loop_ok (fun (i : Nat) t w => t = (ok && (rs.take i).all mayRec, (i : Int), ()) ∧ i ≤ rs.length ∧ SH o (vr a ztj zk1 b :: Γ) w) (fun i => rs.length - i) 0 ⟨by simp, by omega, h⟩ ?_
    rintro i _ w cont ⟨rfl, hi, h⟩ hc
    dsimp only
    refine mif_ok (fun g1 => ?_) (fun g1 => ?_)
    · have hlt : i < rs.length := by simp at g1; omega
      have hstep : (rs.take (i + 1)).all mayRec = ((rs.take i).all mayRec && mayRec rs[i]) := by
        rw [List.take_add_one, List.getElem?_eq_getElem hlt, List.all_append]; simp
      refine ixa_ok h (by omega) (by omega) fun e ea => ?_
      refine ld_el ea h (List.getElem?_eq_getElem hlt) ?_
      refine alo_ok h fun c w h => ?_
      refine sto_var h fun w h => ?_
      have go : ∀ (x : Bool) w, x = (ok && (rs.take (i + 1)).all mayRec) → SH o (vr c ztc zk2 rs[i] :: vr a ztj zk1 b :: Γ) w →
          zf3a_9 cont R a x b.2.2.2.2.1 (b.2.2.2.2.1.len : Int) (i : Int) w := by
        intro x w hx h
        unfold zf3a_9
        rw [w64_of (by omega) (by omega)]
        exact hc (i + 1) _ w (by omega) ⟨by rw [hx]; rfl, hlt, h.drop⟩
      refine mif_ok (fun g2 => ?_) (fun g2 => ?_)
      · refine ld_var h ?_
        refine may_ok h fun w h => ?_
        exact go _ w (by rw [hstep, ← Bool.and_assoc, g2, Bool.true_and]) h
      · exact go _ w (by rw [hstep, ← Bool.and_assoc, g2, Bool.false_and]) h
    · have hi' : i = rs.length := by simp at g1; omega
      subst hi'
      rw [List.take_length]
      generalize hok2 : (ok && rs.all mayRec) = ok2
      have fin : ∀ (x : Bool) w', (x = true ↔ ok2 = true ∧ ((b.1 = 1 ∧ 0 < rs.length ∧ (0 < b.2.1 ∧ 0 < b.2.2.1 ∨ b.2.1 = 0 ∧ b.2.2.1 = 0 ∧ b.2.2.2.1 = 0)) ∨ (b.1 = 2 ∧ 0 < rs.length ∧ 0 < b.2.1 ∧ 0 < b.2.2.1) ∨
          ((b.1 = 3 ∨ b.1 = 4) ∧ rs.length = 0 ∧ (0 < b.2.1 ∧ 0 < b.2.2.1) ∧ b.2.2.2.1 = 0))) → SH o (vr a ztj zk1 b :: Γ) w' → zf3a_5 R x w' := by
        intro x w' hx h
        refine key5 x w' ?_ h.drop
        rw [Bool.eq_iff_iff, hx, ← hok2, hok]
        simp only [bmay, bkind, inB, Bool.and_eq_true, decide_eq_true_eq]
        constructor
        · rintro ⟨⟨⟨⟨⟨h1, h2, h3⟩, h4⟩, h5⟩, h6⟩, h7⟩
          exact ⟨⟨⟨⟨⟨⟨h1.1, h4⟩, h2⟩, h3⟩, h5⟩, h6⟩, h7⟩
        · rintro ⟨⟨⟨⟨⟨⟨h1, h4⟩, h2⟩, h3⟩, h5⟩, h6⟩, h7⟩
          exact ⟨⟨⟨⟨⟨⟨h1, by omega⟩, h2, h3⟩, h4⟩, h5⟩, h6⟩, h7⟩
      clear key5 hok hok2 hR hc cont
      have key4 : ∀ (nn sm : Bool) w, (nn = true ↔ b.2.1 = 0 ∧ b.2.2.1 = 0 ∧ b.2.2.2.1 = 0) → (sm = true ↔ 0 < b.2.1 ∧ 0 < b.2.2.1) → SH o (vr a ztj zk1 b :: Γ) w → zf3a_4 R a ok2 nn sm w := by
        intro nn sm w hnn hsm h
        refine ld_fld0 h ?_
        refine mif_ok (fun g1 => ?_) (fun g1 => ?_) <;> simp at g1
        · refine mif_ok (fun g2 => ?_) (fun g2 => ?_)
          · refine ld_fld h ?_
            refine mif_ok (fun g3 => ?_) (fun g3 => ?_) <;> simp at g3
            · refine mif_ok (fun g4 => ?_) (fun g4 => ?_)
              · exact fin _ _ (by rw [hnn] at g4; simp [g2]; omega) h
              · exact fin _ _ (by rw [hsm]; have : ¬ (b.2.1 = 0 ∧ b.2.2.1 = 0 ∧ b.2.2.2.1 = 0) := by rw [← hnn]; simp [g4]
                                  simp only [g2, true_and]; omega) h
            · exact fin _ _ (by simp; omega) h
          · exact fin _ _ (by simp [g2]) h
        refine mif_ok (fun g1' => ?_) (fun g1' => ?_) <;> simp at g1'
        · refine mif_ok (fun g2 => ?_) (fun g2 => ?_)
          · refine ld_fld h ?_
            refine mif_ok (fun g3 => ?_) (fun g3 => ?_) <;> simp at g3
            · exact fin _ _ (by rw [hsm]; simp only [g2, true_and]; omega) h
            · exact fin _ _ (by simp; omega) h
          · exact fin _ _ (by simp [g2]) h
        have more : ∀ w, SH o (vr a ztj zk1 b :: Γ) w → (b.1 = 3 ∨ b.1 = 4) → mif ok2 (ld P zt6 (ad a 4) .sl fun (x17 : Sl) => mif ((x17.len : Int) == 0)
            (mif sm (ld P zt1 (ad a 3) I fun (x18 : Int) => zf3a_5 R (x18 == 0)) (zf3a_5 R false)) (zf3a_5 R false)) (zf3a_5 R false) w := by
          intro w h g4
          refine mif_ok (fun g2 => ?_) (fun g2 => ?_)
          · refine ld_fld h ?_
            refine mif_ok (fun g3 => ?_) (fun g3 => ?_) <;> simp at g3
            · refine mif_ok (fun g5 => ?_) (fun g5 => ?_)
              · refine ld_fld h ?_
                exact fin _ _ (by rw [hsm] at g5; rw [beq_iff_eq]; simp only [g2, true_and]; omega) h
              · exact fin _ _ (by have : ¬ (0 < b.2.1 ∧ 0 < b.2.2.1) := by rw [← hsm]; simp [g5]
                                  simp only [Bool.false_eq_true, false_iff]; omega) h
            · exact fin _ _ (by simp only [Bool.false_eq_true, false_iff]; omega) h
          · exact fin _ _ (by simp [g2]) h
        refine mif_ok (fun g3 => ?_) (fun g3 => ?_)
        · rw [g3]; exact more w h (.inl (by simpa using g3))
        · refine mif_ok (fun g4 => ?_) (fun g4 => ?_)
          · exact more w h (.inr (by simpa using g4))
          · exact fin _ _ (by simp at g3 g4; simp only [Bool.false_eq_true, false_iff]; omega) h
      have key3 : ∀ (nn : Bool) w, (nn = true ↔ b.2.1 = 0 ∧ b.2.2.1 = 0 ∧ b.2.2.2.1 = 0) → SH o (vr a ztj zk1 b :: Γ) w → zf3a_3 R a ok2 nn w := by
        intro nn w hnn h
        refine ld_fld h ?_
        refine mif_ok (fun g1 => ?_) (fun g1 => ?_) <;> simp at g1
        · refine ld_fld h ?_
          exact key4 _ _ _ hnn (by rw [decide_eq_true_iff]; omega) h
        · exact key4 _ _ _ hnn (by simp only [Bool.false_eq_true, false_iff]; omega) h
      refine ld_fld h ?_
      refine mif_ok (fun g1 => ?_) (fun g1 => ?_) <;> simp at g1
      · refine ld_fld h ?_
        refine mif_ok (fun g2 => ?_) (fun g2 => ?_) <;> simp at g2
        · refine ld_fld h ?_
          exact key3 _ _ (by rw [beq_iff_eq]; omega) h
        · exact key3 _ _ (by simp only [Bool.false_eq_true, false_iff]; omega) h
      · exact key3 _ _ (by simp only [Bool.false_eq_true, false_iff]; omega) h
  refine mif_ok (fun g1 => ?_) (fun g1 => ?_)
  · refine ld_fld h ?_
    refine mif_ok (fun g2 => ?_) (fun g2 => ?_)
    · refine ld_fld h ?_
      refine key1 _ w ?_ h
      have e : decide ((rs.length : Int) ≤ 64) = decide (rs.length ≤ 64) := by rw [decide_eq_decide]; omega
      rw [g1, hlen, e]; simp at g2; simp [g2]
    · refine key1 _ w ?_ h
      simp at g2; simp; omega
  · refine key1 _ w ?_ h
    simp only [g1, Bool.false_and]
end
end Go.Proofs.YtpjhflboedicpaaGreatDoor
namespace Go.Proofs.YtpjhflboedicpaaGreatDoor
open Go Go.W
set_option maxRecDepth 100000
section
variable {o : Fix} {Γ Δ : List Assn} {w : World}
theorem PutRecord_ok {R : Bs → World → Prop} {r : Rec} (hm : mayRec r = true) (h : SH o Γ w) (hR : ∀ w', SH o Γ w' → R (encRec r) w') : mcall P n_zf2k [KV zk2 r] .s R w := by
  apply zf2k_call
  obtain ⟨h1, h2, h3⟩ := mayRec_spec hm
  have hI : ∀ n ∈ [r.1, r.2.1], I64 n := by intro n hn; simp at hn; rcases hn with rfl | rfl <;> constructor <;> omega
  refine bx_ok h fun a w h => ?_
  refine mdraw_ok h fun w h => ?_
  refine ld_fld0 h ?_
  refine ld_fld h ?_
  refine ld_fld h ?_
  refine bsl_ok h fun x w h => ?_
  refine mst_fld h ?_
  refine PutAll_ok h hI (by simp) fun w h => ?_
  refine mst_fld h ?_
  refine PutText_ok (by omega) h fun w h => ?_
  have g1 := encRec_len hm
  unfold encRec at g1
  rw [List.length_append] at g1
  refine mcat_ok (by omega) ?_
  exact hR w h.drop.drop
def takeRecR (s : Bs) : Rec × Bs × Int × Unit := match takeRec s with | some (x, r) => (x, r, 0, ()) | none => ((0, 0, [], ()), [], 2, ())
theorem takeRecR_some {s r : Bs} {x : Rec} (h : takeRec s = some (x, r)) : takeRecR s = (x, r, 0, ()) := by unfold takeRecR; rw [h]
theorem takeRecR_none {s : Bs} (h : takeRec s = none) : takeRecR s = ((0, 0, [], ()), [], 2, ()) := by unfold takeRecR; rw [h]
theorem TakeRecord_ok {R : (zT2 × Bs × Int × Unit) → World → Prop} {s : Bs} (hs : s.length ≤ 1099511620000) (h : SH o Γ w) (hR : ∀ w', SH o Γ w' → R (takeRecR s) w') :
    mcall P n_zf2y [(.string ⟨s.toArray⟩)] (.tup [zk2, .s, I]) R w := by
  apply zf2y_call
  refine alo_ok h fun a w h => ?_
  have no : ∀ {w'} (hn : takeRec s = none), SH o (vr a ztc zk2 (0, 0, [], ()) :: Γ) w' →
      sto P ztc a zk2 (0, 0, [], ()) (ld P ztc a zk2 fun (x3 : zT2) => R (x3, [], 2, ())) w' := fun hn h => by
    refine sto_var h fun w h => ?_
    refine ld_var h ?_
    have := hR w h.drop
    rwa [takeRecR_none hn] at this
  refine TakeAll_ok (n := 2) (by omega) (by omega) h (fun l xs r w e3 h => ?_) (fun w e3 h => ?_)
  · obtain ⟨hx1, hx2, hx3⟩ := takeAll_len _ _ _ _ e3
    obtain ⟨x, y, rfl⟩ : ∃ x y, xs = [x, y] := by
      match xs, hx1 with
      | [x, y], _ => exact ⟨x, y, rfl⟩
    refine mif_ok (fun g4 => ?_) (fun g4 => ?_)
    · simp at g4
    refine TakeText_ok (by simp only; omega) h fun w h => ?_
    cases e4 : ttext r 512 with
    | none =>
      have hn : takeRec s = none := by unfold takeRec; rw [e3]; simp only []; rw [e4]
      dsimp only
      rw [ttextR_none e4]
      refine alo_ok h fun a5 w h => ?_
      refine sto_var h fun w h => ?_
      refine mif_ok (fun g1 => ?_) (fun g1 => ?_)
      · simp at g1
      refine mif_ok (fun g1 => ?_) (fun g1 => ?_)
      · exact no hn h.to
      · simp at g1
    | some z =>
      obtain ⟨t, r2⟩ := z
      have ht : takeRec s = match mayRec (x, y, t, ()) with | true => some ((x, y, t, ()), r2) | false => none := by unfold takeRec; rw [e3]; simp only []; rw [e4]; rfl
      dsimp only
      rw [ttextR_some e4]
      refine alo_ok h fun a5 w h => ?_
      refine sto_var h fun w h => ?_
      have hlen := h.len (s := l)
      simp only [List.length_cons, List.length_nil] at hlen
      refine mif_ok (fun g1 => ?_) (fun g1 => ?_)
      · refine mdraw_ok h fun w h => ?_
        refine ixa_ok h (by omega) (by omega) fun p0 ea0 => ?_
        refine ld_el ea0 h rfl ?_
        refine ixa_ok h (by omega) (by omega) fun p1 ea1 => ?_
        refine ld_el ea1 h rfl ?_
        refine sto_var h fun w h => ?_
        refine mif_ok (fun g2 => ?_) (fun g2 => ?_)
        · simp at g2
        refine ld_var h ?_
        refine may_ok h fun w h => ?_
        cases hm : mayRec (x, y, t, ()) with
        | true =>
          rw [hm] at ht
          refine mif_ok (fun g3 => ?_) (fun g3 => ?_)
          · simp at g3
          refine ld_var h ?_
          refine sto_var h fun w h => ?_
          refine ld_var h ?_
          have := hR w h.to
          rw [takeRecR_some ht] at this
          exact this
        | false =>
          rw [hm] at ht
          refine mif_ok (fun g3 => ?_) (fun g3 => ?_)
          · exact no ht h.to
          · simp at g3
      · simp at g1
  · refine mif_ok (fun g4 => ?_) (fun g4 => ?_)
    · exact no (by unfold takeRec; rw [e3]) h
    · simp at g4
theorem Encode_ok {R : (Bs × Int × Unit) → World → Prop} {b : zT1} {rs : List Rec} (h : SH o Γ w) [hr : RdS b.2.2.2.2.1 zk2 rs Γ] (hl : rs.length ≤ 9223372036854775807)
    (hR : ∀ w', SH o Γ w' → R (if bmay b.1 b.2.1 b.2.2.1 b.2.2.2.1 rs then (encB b.1 b.2.1 b.2.2.1 b.2.2.2.1 rs, 0, ()) else ([], 1, ())) w') : mcall P n_zf3f [KV zk1 b] (.tup [.s, I]) R w := by
  apply zf3f_call
  have hlen := h.len (s := b.2.2.2.2.1)
  refine bx_ok h fun a w h => ?_
  refine ld_var h ?_
  refine bCheck_ok h hl fun w h => ?_
  cases hb : bmay b.1 b.2.1 b.2.2.1 b.2.2.2.1 rs with
  | false =>
    refine mif_ok (fun g1 => ?_) (fun g1 => ?_)
    · have := hR w h.drop; rw [hb] at this; simpa using this
    · simp at g1
  | true =>
    obtain ⟨h1, h2, h3, h4, h5, h6⟩ := bmay_spec hb
    have hk := bkind_k h6
    have hI : ∀ n ∈ [b.1, b.2.1, b.2.2.1, b.2.2.2.1, (rs.length : Int)], I64 n := by intro n hn; simp at hn; rcases hn with rfl | rfl | rfl | rfl | rfl <;> constructor <;> omega
    have hpl := putAll_len hI
    simp only [List.length_cons, List.length_nil] at hpl
    refine mif_ok (fun g1 => ?_) (fun g1 => ?_)
    · simp at g1
    refine alo_ok h fun c w h => ?_
    have h := bld_new (tE := zt3) h
    refine ld_fld0 h ?_
    refine ld_fld h ?_
    refine ld_fld h ?_
    refine ld_fld h ?_
    refine ld_fld h ?_
    rw [hlen]
    refine bsl_ok h fun x w h => ?_
    refine PutAll_ok h hI (by simp) fun w h => ?_
    refine WriteString_ok (bs := []) h (by simp; omega) fun r w h => ?_
    rw [List.nil_append] at h
    have h : SH o (bld c (putAll [b.1, b.2.1, b.2.2.1, b.2.2.2.1, (rs.length : Int)]) :: vr a ztj zk1 b :: Γ) w := h.to
    unfold zf3f_1 zf3f_3
    refine ld_fld h ?_
    unfold zf3f_4
    refine loop_ok (fun (i : Nat) t w => t = ((i : Int), ()) ∧ i ≤ rs.length ∧ SH o (bld c (putAll [b.1, b.2.1, b.2.2.1, b.2.2.2.1, (rs.length : Int)] ++ encRecs (rs.take i)) :: vr a ztj zk1 b :: Γ) w) (fun i => rs.length - i) 0
      ⟨rfl, by omega, by simpa [encRecs] using h⟩ ?_
    rintro i _ w cont ⟨rfl, hi, h⟩ hc
    dsimp only
    have hel := encRecs_len (rs := rs.take i) fun x hx => h5 x (List.mem_of_mem_take hx)
    rw [List.length_take] at hel
    refine mif_ok (fun g1 => ?_) (fun g1 => ?_)
    · have hlt : i < rs.length := by simp at g1; omega
      refine ixa_ok h (by omega) (by omega) fun e ea => ?_
      refine ld_el ea h (List.getElem?_eq_getElem hlt) ?_
      refine alo_ok h fun d w h => ?_
      refine sto_var h fun w h => ?_
      refine ld_var h ?_
      have hmr := h5 rs[i] (List.getElem_mem hlt)
      have hrl := encRec_len hmr
      refine PutRecord_ok hmr h fun w h => ?_
      refine WriteString_ok h (by rw [List.length_append]; omega) fun r w h => ?_
      rw [w64_of (by omega) (by omega)]
      refine hc (i + 1) _ w (by omega) ⟨rfl, hlt, ?_⟩
      have e1 : encRecs (rs.take (i + 1)) = encRecs (rs.take i) ++ encRec rs[i] := by
        simp only [encRecs, List.take_add_one, List.getElem?_eq_getElem hlt, Option.toList, List.flatMap_append, List.flatMap_cons, List.flatMap_nil, List.append_nil]
      rw [e1, ← List.append_assoc]
      exact h.to
    · have hi' : i = rs.length := by simp at g1; omega
      subst hi'
      rw [List.take_length] at h
      refine BString_ok h (by rw [List.take_length] at hel; rw [List.length_append]; omega) fun w h => ?_
      have := hR w h.drop
      rw [hb] at this
      simpa [encB] using this
theorem Decode_ok {R : (zT1 × Int × Unit) → World → Prop} {s : Bs} (hs : s.length ≤ 1099511620000) (h : SH o Γ w)
    (hR : ∀ l k p e q rs w', decB s = some (k, p, e, q, rs) → SH o (slO l ztc zk2 rs :: Γ) w' → R ((k, p, e, q, l, ()), 0, ()) w')
    (hN : ∀ w', decB s = none → SH o Γ w' → R ((0, 0, 0, 0, ⟨none, 0, 0⟩, ()), 2, ()) w') : mcall P n_zf1t [(.string ⟨s.toArray⟩)] (.tup [zk1, I]) R w := by
  apply zf1t_call
  refine alo_ok h fun a w h => ?_
  have no : ∀ {w'} (hn : decB s = none), SH o (vr a ztj zk1 (0, 0, 0, 0, ⟨none, 0, 0⟩, ()) :: Γ) w' →
      sto P ztj a zk1 (0, 0, 0, 0, ⟨none, 0, 0⟩, ()) (ld P ztj a zk1 fun (x3 : zT1) => R (x3, 2, ())) w' := fun hn h => by
    refine sto_var h fun w h => ?_
    refine ld_var h ?_
    exact hN w hn h.drop
  refine TakeAll_ok (n := 5) (by omega) (by omega) h (fun l xs r w e3 h => ?_) (fun w e3 h => ?_)
  · obtain ⟨hx1, hx2, hx3⟩ := takeAll_len _ _ _ _ e3
    obtain ⟨k, p, e, q, n, rfl⟩ : ∃ k p e q n, xs = [k, p, e, q, n] := by
      match xs, hx1 with
      | [k, p, e, q, n], _ => exact ⟨k, p, e, q, n, rfl⟩
    have hlen := h.len (s := l)
    simp only [List.length_cons, List.length_nil] at hlen
    refine mif_ok (fun g4 => ?_) (fun g4 => ?_)
    · simp at g4
    dsimp only
    refine ixa_ok h (by omega) (by omega) fun p4 ea4 => ?_
    refine ld_el ea4 h rfl ?_
    refine mif_ok (fun g5 => ?_) (fun g5 => ?_)
    · exact no (by unfold decB; rw [e3]; simp only []; rw [if_pos (.inl (by simpa using g5))]) h.to
    refine ixa_ok h (by omega) (by omega) fun p4' ea4' => ?_
    refine ld_el ea4' h rfl ?_
    refine mif_ok (fun g6 => ?_) (fun g6 => ?_)
    · exact no (by unfold decB; rw [e3]; simp only []; rw [if_pos (.inr (by simpa using g6))]) h.to
    have hn0 : ¬ (n < 0 ∨ 64 < n) := by simp at g5 g6; omega
    have hd : decB s = match takeRecs n.toNat r with | some (rs, []) => (match bmay k p e q rs with | true => some (k, p, e, q, rs) | false => none) | _ => none := by
      unfold decB; rw [e3]; simp only []; rw [if_neg hn0]; rfl
    refine mdraw_ok h fun w h => ?_
    refine ixa_ok h (by omega) (by omega) fun p0 ea0 => ?_
    refine ld_el ea0 h rfl ?_
    refine ixa_ok h (by omega) (by omega) fun p1 ea1 => ?_
    refine ld_el ea1 h rfl ?_
    refine ixa_ok h (by omega) (by omega) fun p2 ea2 => ?_
    refine ld_el ea2 h rfl ?_
    refine ixa_ok h (by omega) (by omega) fun p3 ea3 => ?_
    refine ld_el ea3 h rfl ?_
    refine alo_ok h fun c w h => ?_
    refine mst_el ea3 h rfl ?_
    refine mst_ixa h ea3 (by omega) (by omega) ?_
    refine mst_el ea2 h rfl ?_
    refine mst_ixa h ea2 (by omega) (by omega) ?_
    refine mst_el ea1 h rfl ?_
    refine mst_ixa h ea1 (by omega) (by omega) ?_
    refine mst_el ea0 h rfl ?_
    refine mst_ixa h ea0 (by omega) (by omega) ?_
    refine sto_var h fun w h => ?_
    unfold zf1t_1 zf1t_3
    refine ixa_ok h (by omega) (by omega) fun p4 ea4 => ?_
    refine ld_el ea4 h rfl ?_
    have h := h.nilS ztc zk2
    have h : SH o (slO ⟨none, 0, 0⟩ ztc zk2 [] :: vr c ztj zk1 (k, p, e, q, ⟨none, 0, 0⟩, ()) :: vr a ztj zk1 (0, 0, 0, 0, ⟨none, 0, 0⟩, ()) :: Γ) w := h.to
    unfold zf1t_4
    refine loop_ok (fun (g : List Rec × Bs) t w => ∃ u, t = (g.2, (g.1.length : Int), ()) ∧ (g.1.length : Int) ≤ n ∧ g.2.length ≤ r.length ∧
        SH o (slO u ztc zk2 g.1 :: vr c ztj zk1 (k, p, e, q, u, ()) :: vr a ztj zk1 (0, 0, 0, 0, ⟨none, 0, 0⟩, ()) :: Γ) w ∧
        takeRecs n.toNat r = (match takeRecs (n.toNat - g.1.length) g.2 with | some (ys, r') => some (g.1 ++ ys, r') | none => none)) (fun g => n.toNat - g.1.length) ([], r)
      ⟨_, rfl, by simp; omega, by simp, h, by simp; cases takeRecs n.toNat r <;> rfl⟩ ?_
    rintro ⟨ys, r1⟩ _ w cont ⟨u, rfl, hi, hr1, h, ht⟩ hc
    simp only at hi hr1 h ht
    dsimp only
    refine mif_ok (fun g1 => ?_) (fun g1 => ?_)
    · have hlt : ys.length < n.toNat := by simp at g1; omega
      obtain ⟨m, hm⟩ : ∃ m, n.toNat - ys.length = m + 1 := ⟨n.toNat - ys.length - 1, by omega⟩
      rw [hm, takeRecs] at ht
      refine TakeRecord_ok (by omega) h fun w h => ?_
      cases e5 : takeRec r1 with
      | none =>
        rw [e5] at ht
        rw [takeRecR_none e5]
        refine alo_ok h fun d w h => ?_
        refine sto_var h fun w h => ?_
        refine mif_ok (fun g2 => ?_) (fun g2 => ?_)
        · exact no (by rw [hd, ht]) h.to
        · simp at g2
      | some z =>
        obtain ⟨x, r2⟩ := z
        have hz := takeRec_len e5
        rw [e5] at ht
        rw [takeRecR_some e5]
        refine alo_ok h fun d w h => ?_
        refine sto_var h fun w h => ?_
        refine mif_ok (fun g2 => ?_) (fun g2 => ?_)
        · simp at g2
        refine ld_fld h ?_
        refine ld_var h ?_
        refine bsl_ok h fun u2 w h => ?_
        refine app_ok h (by simp; omega) (fun y _ => okV_plain rfl y) fun u3 w h => ?_
        refine sto_fld h fun w h => ?_
        rw [w64_of (by omega) (by omega)]
        refine hc (ys ++ [x], r2) _ w (by simp; omega) ⟨u3, by simp, by simp; omega, by simp only; omega, h.to, ?_⟩
        simp only [List.length_append, List.length_cons, List.length_nil]
        rw [ht, show n.toNat - (ys.length + 1) = m by omega]
        simp only []
        cases takeRecs m r2 with
        | none => rfl
        | some z => simp
    · have hi' : ys.length = n.toNat := by simp at g1; omega
      have ht : takeRecs n.toNat r = some (ys, r1) := by rw [ht, show n.toNat - ys.length = 0 by omega]; simp [takeRecs]
      rw [ht] at hd
      refine mif_ok (fun g2 => ?_) (fun g2 => ?_)
      · have : r1 ≠ [] := by simpa using g2
        exact no (by rw [hd]; cases r1 with
                     | nil => exact absurd rfl this
                     | cons x y => rfl) h.to
      · have : r1 = [] := by simpa using g2
        subst this
        refine ld_var h ?_
        refine bCheck_ok h (by omega) fun w h => ?_
        simp only at hd
        cases hb : bmay k p e q ys with
        | true =>
          rw [hb] at hd
          refine mif_ok (fun g3 => ?_) (fun g3 => ?_)
          · simp [hb] at g3
          refine ld_var h ?_
          refine sto_var h fun w h => ?_
          refine ld_var h ?_
          exact hR u k p e q ys w hd h.to
        | false =>
          rw [hb] at hd
          refine mif_ok (fun g3 => ?_) (fun g3 => ?_)
          · exact no hd h.to
          · simp [hb] at g3
  · refine mif_ok (fun g4 => ?_) (fun g4 => ?_)
    · exact no (by unfold decB; rw [e3]) h
    · simp at g4
end
end Go.Proofs.YtpjhflboedicpaaGreatDoor
