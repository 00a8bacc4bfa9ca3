/- Contracts of functions of the program, proved on their short texts. No condition. -/
import Derived.Test.YtpjhflboedicpaaGreatDoorMa
import Derived.Maps.RangeRun
set_option linter.unusedVariables false
set_option linter.unusedSimpArgs false
namespace Go.Proofs.YtpjhflboedicpaaGreatDoor
open Go Go.W
set_option maxRecDepth 100000
section
variable {o : Fix} {Γ Δ : List Assn} {w : World}
def asc (cs : Bs) : List Bool := (List.range 256).map fun i => cs.any fun c => c.toNat == i
theorem asc_len (cs : Bs) : (asc cs).length = 256 := by simp [asc]
theorem asc_get {cs : Bs} {c : UInt8} : (asc cs)[c.toNat]? = some (cs.any fun x => x.toNat == c.toNat) := by
  have := c.toNat_lt
  simp [asc, List.getElem?_range (show c.toNat < 256 by omega)]
theorem asc_snoc (cs : Bs) (c : UInt8) : asc (cs ++ [c]) = (asc cs).set c.toNat true := by
  apply List.ext_getElem?
  intro j
  have := c.toNat_lt
  rcases Nat.lt_or_ge j 256 with hj | hj
  · by_cases e : c.toNat = j
    · subst e
      rw [List.getElem?_set_self (by rw [asc_len]; omega)]
      simp [asc, List.getElem?_range hj]
    · rw [List.getElem?_set_ne e]
      simp [asc, List.getElem?_range hj, e]
  · rw [List.getElem?_eq_none (by rw [asc_len]; omega), List.getElem?_eq_none (by rw [List.length_set, asc_len]; omega)]
theorem asc_pack (cs : Bs) : ∃ x : zTf, KC zkf x = rows .b (asc cs) := by
  obtain ⟨x, hx⟩ := rows_pack .b (asc cs)
  have hl := asc_len cs
  revert x
  rw [hl]
  intro x hx
  exact ⟨x, hx⟩
theorem makeSet_ok {R : (zTf × Bool × Unit) → World → Prop} {cs : Bs} (hl : cs.length ≤ 1099511627776) (hc : ∀ c ∈ cs, c.toNat < 128) (h : SH o Γ w)
    (hR : ∀ x w', KC zkf x = rows .b (asc cs) → SH o Γ w' → R (x, true, ()) w') : mcall P n_zf3y [(.string ⟨cs.toArray⟩)] (.tup [zkf, .b]) R w := by
  apply zf3y_call
  refine alo_ok h fun a w h => ?_
  rw [vr_arr (xs := asc []) (ke := .b) (by kernel_rfl)] at h
  unfold zf3y_1 zf3y_3 zf3y_4
  refine loop_ok (fun (i : Nat) t w => t = ((i : Int), ()) ∧ i ≤ cs.length ∧ SH o (arrA a zt1e .b (asc (cs.take i)) :: Γ) w) (fun i => cs.length - i) 0 ⟨rfl, by omega, h⟩ ?_
  rintro i _ w cont ⟨rfl, hi, h⟩ hcn
  dsimp only
  refine mif_ok (fun g1 => ?_) (fun g1 => ?_)
  · have hlt : i < cs.length := by simp at g1; omega
    have h8 := hc cs[i] (List.getElem_mem hlt)
    refine ixs_ok (b := cs[i]) (by omega) (gete hlt) ?_
    refine mif_ok (fun g2 => ?_) (fun g2 => ?_)
    · simp at g2; omega
    refine ixa_ar (n := 256) h (by omega) (by omega) fun p ea => ?_
    rw [Int.toNat_natCast] at ea
    refine sto_ar ea h (by rw [asc_len]; omega) fun w h => ?_
    rw [w64_of (by omega) (by omega)]
    refine hcn (i + 1) _ w (by omega) ⟨rfl, hlt, ?_⟩
    have e : cs.take (i + 1) = cs.take i ++ [cs[i]] := by rw [List.take_add_one, List.getElem?_eq_getElem hlt]; rfl
    rw [e, asc_snoc]; exact h
  · have hi' : i = cs.length := by simp at g1; omega
    subst hi'
    rw [List.take_length] at h
    obtain ⟨x, hx⟩ := asc_pack cs
    rw [← vr_arr (k := zkf) (x := x) hx] at h
    unfold zf3y_2
    refine ld_var h ?_
    refine sto_var h fun w h => ?_
    refine ld_var h ?_
    exact hR x w hx h.drop
theorem contains_ok {R : Bool → World → Prop} {a : Addr} {cs : Bs} {c : UInt8} (h : SH o Γ w) [ha : HasAr a zt1e .b (asc cs) Γ Δ] (hR : R (cs.any fun x => x.toNat == c.toNat) w) : mcall P n_zf4n [(.pointer (some a)), (.int .u8 (c.toNat : Int))] .b R w := by
  apply zf4n_call
  have := c.toNat_lt
  refine mnil_ok ?_
  refine ixa_ar (n := 256) h (by omega) (by omega) fun p ea => ?_
  rw [Int.toNat_natCast] at ea
  refine ld_ar ea h asc_get ?_
  exact hR
theorem Trim_ok {R : Bs → World → Prop} {s cs : Bs} (hs : s ≠ []) (hsl : s.length ≤ 1099511627776) (hl2 : 2 ≤ cs.length) (hl : cs.length ≤ 1099511627776) (hc : ∀ c ∈ cs, c.toNat < 128) (hin : ∀ c ∈ s, c ∈ cs) (h : SH o Γ w)
    (hR : ∀ w', SH o Γ w' → R [] w') : mcall P n_zf2n [(.string ⟨s.toArray⟩), (.string ⟨cs.toArray⟩)] .s R w := by
  apply zf2n_call
  have hne : cs ≠ [] := by rintro rfl; simp at hl2
  refine mif_ok (fun g1 => ?_) (fun g1 => ?_)
  · exact absurd (by simpa using g1) hs
  refine mif_ok (fun g2 => ?_) (fun g2 => ?_)
  · exact absurd (by simpa using g2) hne
  refine mif_ok (fun g3 => ?_) (fun g3 => ?_)
  · simp at g3; omega
  unfold zf2n_1
  refine makeSet_ok hl hc h fun x w hx h => ?_
  refine alo_ok h fun a w h => ?_
  refine sto_var h fun w h => ?_
  rw [vr_arr hx] at h
  have hany : ∀ c ∈ s, (cs.any fun x => x.toNat == c.toNat) = true := fun c hcs => List.any_eq_true.2 ⟨c, hin c hcs, by simp⟩
  refine mif_ok (fun g4 => ?_) (fun g4 => ?_)
  · have left : ∀ (K : Bs → World → Prop) w, SH o (arrA a zt1e .b (asc cs) :: Γ) w → (∀ w', SH o (arrA a zt1e .b (asc cs) :: Γ) w' → K [] w') → mcall P n_zf3z [(.string ⟨([] : Bs).toArray⟩), (.pointer (some a))] .s K w := by
      intro K w h hK
      apply zf3z_call
      unfold zf3z_0 zf3z_1
      refine loop_ok (fun (i : Nat) t w => t = (([] : Bs), ()) ∧ SH o (arrA a zt1e .b (asc cs) :: Γ) w) (fun i => i) 0 ⟨rfl, h⟩ ?_
      rintro i _ w cont ⟨rfl, h⟩ hcn
      refine mif_ok (fun g1 => ?_) (fun g1 => ?_)
      · simp at g1
      · exact hK w h
    apply zf40_call
    unfold zf40_0 zf40_1
    refine loop_ok (fun (i : Nat) t w => t = (s.take i, ()) ∧ i ≤ s.length ∧ SH o (arrA a zt1e .b (asc cs) :: Γ) w) (fun i => i) s.length ⟨by rw [List.take_length], by omega, h⟩ ?_
    rintro i _ w cont ⟨rfl, hi, h⟩ hcn
    have hil : (s.take i).length = i := by simp; omega
    unfold zf40_3
    dsimp only
    rw [hil]
    refine mif_ok (fun g1 => ?_) (fun g1 => ?_)
    · have h0 : 0 < i := by simp at g1; omega
      rw [w64_of (by omega) (by omega)]
      have e1 : ((i : Int) - 1).toNat = i - 1 := by omega
      have hb : (s.take i)[i - 1]? = some (s[i - 1]'(by omega)) := by rw [List.getElem?_take, if_pos (by omega), List.getElem?_eq_getElem (by omega)]
      refine ixs_ok (by omega) (by rw [e1]; exact hb) ?_
      refine contains_ok h ?_
      rw [hany _ (List.getElem_mem _)]
      refine mif_ok (fun g2 => ?_) (fun g2 => ?_)
      · cases g2
      refine sls_to (by omega) (by omega) ?_
      rw [e1]
      refine hcn (i - 1) _ w (by omega) ⟨?_, by omega, h⟩
      rw [List.take_take, Nat.min_eq_left (by omega)]
    · have h0 : i = 0 := by simp at g1; omega
      subst h0
      unfold zf40_2
      rw [List.take_zero]
      refine left _ w h fun w h => ?_
      exact hR w h.drop
  · cases g4
end
end Go.Proofs.YtpjhflboedicpaaGreatDoor
namespace Go.Proofs.YtpjhflboedicpaaGreatDoor
open Go Go.W
set_option maxRecDepth 100000
abbrev Fl := Bs × Addr × Bs × Bs
abbrev DF := Bs × Bs × Bs
def dfOf (q : Fl) : DF := (q.1, q.2.2.1, q.2.2.2)
def fileA (q : Fl) : Assn := vr q.2.1 ztr zka (q.2.2.1, q.2.2.2, ())
def diskB (d : Addr) (m : Nat) (L : List Fl) (room fuse : Int) (off : Bool) : List Assn :=
  vr d ztl zk7 (some m, room, fuse, off, ()) :: mpA m .s .p (L.map fun q => (q.1, some q.2.1)) :: L.map fileA
def diskA (d : Addr) (fs : List DF) (room fuse : Int) (off : Bool) : Assn :=
  exA fun g : Nat × List Fl => andA (g.2.map dfOf = fs ∧ (fs.map (·.1)).Nodup) (starA (diskB d g.1 g.2 room fuse off))
def letters : Bs := [97, 98, 99, 100, 101, 102, 103, 104, 105, 106, 107, 108, 109, 110, 111, 112, 113, 114, 115, 116, 117, 118, 119, 120, 121, 122, 48, 49, 50, 51, 52, 53, 54, 55, 56, 57, 46, 45]
def goodName (n : Bs) : Bool := !n.isEmpty && decide (n.length ≤ 24) && n.all fun c => letters.contains c
def blk (n : Nat) : Int := mx 1 (((n : Int) + 63) / 64)
def fuse1 (f : Int) : Int := if f > 0 then f - 1 else f
theorem blk_pos (n : Nat) : 1 ≤ blk n ∧ blk n ≤ n + 1 := by unfold blk mx; split <;> omega
section
variable {o : Fix} {Γ Δ : List Assn} {w : World}
theorem disk_open {d : Addr} {fs : List DF} {room fuse : Int} {off : Bool} : SH o (diskA d fs room fuse off :: Γ) w ↔ ∃ (m : Nat) (L : List Fl), L.map dfOf = fs ∧ (fs.map (·.1)).Nodup ∧
    SH o (vr d ztl zk7 (some m, room, fuse, off, ()) :: mpA m .s .p (L.map fun q => (q.1, some q.2.1)) :: (L.map fileA ++ Γ)) w := by
  constructor
  · intro h
    obtain ⟨⟨m, L⟩, h⟩ := SH.ex.1 h
    obtain ⟨⟨h1, h2⟩, h⟩ := SH.and.1 h
    exact ⟨m, L, h1, h2, SH.star.1 h⟩
  · rintro ⟨m, L, h1, h2, h⟩
    exact SH.ex.2 ⟨(m, L), SH.and.2 ⟨⟨h1, h2⟩, SH.star.2 h⟩⟩
theorem New_ok {R : (Option Addr × Int × Unit) → World → Prop} {n : Int} (hn : 1 ≤ n ∧ n ≤ 16384) (h : SH o Γ w) (hR : ∀ d w', SH o (diskA d [] n (-1) false :: Γ) w' → R (some d, 0, ()) w') : mcall P n_zf8 [(.int .i64 n)] (.tup [.p, I]) R w := by
  apply zf8_call
  refine mif_ok (fun g => ?_) (fun g => ?_)
  · simp at g; omega
  refine mif_ok (fun g => ?_) (fun g => ?_)
  · simp at g; omega
  refine mkm_ok (kk := .s) (kv := .p) h fun m w h => ?_
  refine bx_ok h fun d w h => ?_
  exact hR d w (disk_open.2 ⟨m, [], rfl, by simp, h⟩)
theorem named_ok {R : Bool → World → Prop} {n : Bs} (hn : goodName n = true) (h : SH o Γ w) (hR : ∀ w', SH o Γ w' → R true w') : mcall P n_zf43 [(.string ⟨n.toArray⟩)] .b R w := by
  apply zf43_call
  simp only [goodName, Bool.and_eq_true, decide_eq_true_eq, List.all_eq_true] at hn
  obtain ⟨⟨h1, h2⟩, h3⟩ := hn
  have hne : n ≠ [] := by simpa using h1
  refine mif_ok (fun g => ?_) (fun g => ?_)
  · refine mif_ok (fun g2 => ?_) (fun g2 => ?_)
    · refine Trim_ok (cs := letters) hne (by omega) (by decide) (by decide) (by decide) (fun c hc => by simpa using h3 c hc) h fun w h => ?_
      exact hR w h
    · simp at g2; omega
  · exact absurd (by simpa using g) hne
theorem ready_ok {R : Int → World → Prop} {d : Addr} {nm : Bs} {l : Sl} {m : Nat} {room fuse : Int} {off : Bool} (hn : goodName nm = true) (h : SH o Γ w) [hd : RdV d ztl zk7 (some m, room, fuse, off, ()) Γ] [hl : RdS l .s [nm] Γ]
    (hR : ∀ w', SH o Γ w' → R (if off then 4 else 0) w') : mcall P n_zf2q [(.pointer (some d)), (Sl.v l)] I R w := by
  apply zf2q_call
  have hlen := h.len (s := l)
  simp only [List.length_cons, List.length_nil] at hlen
  unfold zf2q_0 zf2q_1 zf2q_3 zf2q_4
  refine loop_ok (fun (i : Nat) t w => t = ((i : Int), ()) ∧ i ≤ 1 ∧ SH o Γ w) (fun i => 1 - i) 0 ⟨rfl, by omega, h⟩ ?_
  rintro i _ w cont ⟨rfl, hi, h⟩ hc
  dsimp only
  refine mif_ok (fun g => ?_) (fun g => ?_)
  · have : i = 0 := by simp at g; omega
    subst this
    refine ixa_ok h (by omega) (by omega) fun e ea => ?_
    refine ld_el ea h rfl ?_
    refine meq_ptr_nil ?_
    refine mif_ok (fun g2 => ?_) (fun g2 => ?_)
    · cases g2
    refine named_ok hn h fun w h => ?_
    refine mif_ok (fun g3 => ?_) (fun g3 => ?_)
    · cases g3
    exact hc 1 _ w (by omega) ⟨rfl, by omega, h⟩
  · unfold zf2q_2
    refine mnil_ok ?_
    refine ld_fld h ?_
    refine mif_ok (fun g2 => ?_) (fun g2 => ?_)
    · have g2 : off = true := g2
      have := hR w h; rw [g2] at this; exact this
    · have g2 : off = false := g2
      have := hR w h; rw [g2] at this; exact this
theorem burn_ok {R : Bool → World → Prop} {d : Addr} {m : Nat} {room fuse : Int} {off : Bool} (hf : I64 fuse) (h : SH o (vr d ztl zk7 (some m, room, fuse, off, ()) :: Γ) w)
    (h0 : fuse = 0 → ∀ w', SH o (vr d ztl zk7 (some m, room, fuse, true, ()) :: Γ) w' → R false w')
    (h1 : fuse ≠ 0 → ∀ w', SH o (vr d ztl zk7 (some m, room, fuse1 fuse, off, ()) :: Γ) w' → R true w') : mcall P n_zf2r [(.pointer (some d))] .b R w := by
  apply zf2r_call
  obtain ⟨f1, f2⟩ := hf
  refine mnil_ok ?_
  refine ld_fld h ?_
  refine mif_ok (fun g => ?_) (fun g => ?_)
  · refine mnil_ok ?_
    refine sto_fld h fun w h => ?_
    exact h0 (by simpa using g) w h
  · have hne : fuse ≠ 0 := by simpa using g
    refine mnil_ok ?_
    refine ld_fld h ?_
    refine mif_ok (fun g2 => ?_) (fun g2 => ?_)
    · have hp : fuse > 0 := by simpa using g2
      refine mnil_ok ?_
      refine ld_fld h ?_
      refine mnil_ok ?_
      dsimp only
      rw [w64_of (by omega) (by omega)]
      refine sto_fld h fun w h => ?_
      have e : fuse1 fuse = fuse - 1 := by unfold fuse1; rw [if_pos hp]
      exact h1 hne w (by rw [e]; exact h)
    · have hp : ¬ fuse > 0 := by simpa using g2
      have e : fuse1 fuse = fuse := by unfold fuse1; rw [if_neg hp]
      exact h1 hne w (by rw [e]; exact h)
theorem blocks_ok {R : Int → World → Prop} {n : Nat} (hn : n ≤ 1099511627776) (hR : R (blk n) w) : mcall P n_zf1j [(.int .i64 (n : Int))] I R w := by
  apply zf1j_call
  unfold zf1j_0
  have e : w64 ((w64 ((w64 ((n : Int) + 64)) - 1)).tdiv 64) = ((n : Int) + 63) / 64 := by
    rw [w64_of (x := (n : Int) + 64) (by omega) (by omega), w64_of (x := (n : Int) + 64 - 1) (by omega) (by omega), Int.tdiv_eq_ediv_of_nonneg (by omega), w64_of (by omega) (by omega)]
    congr 1; omega
  rw [e]; exact hR
theorem size_ok {R : Int → World → Prop} {f : Addr} {su lo : Bs} (hl : su.length + lo.length ≤ 1099511627776) (h : SH o Γ w) [hf : RdV f ztr zka (su, lo, ()) Γ] (hR : ∀ w', SH o Γ w' → R ((su.length + lo.length : Nat) : Int) w') : mcall P n_zf1k [(.pointer (some f))] I R w := by
  apply zf1k_call
  refine mdraw_ok h fun w h => ?_
  refine mnil_ok ?_
  refine ld_fld0 h ?_
  refine mnil_ok ?_
  refine ld_fld h ?_
  dsimp only
  rw [w64_of (by omega) (by omega)]
  have := hR w h
  rwa [Int.natCast_add] at this
theorem Off_ok {R : Bool → World → Prop} {d : Addr} {fs : List DF} {room fuse : Int} {off : Bool} (h : SH o (diskA d fs room fuse off :: Γ) w) (hR : ∀ w', SH o (diskA d fs room fuse off :: Γ) w' → R off w') : mcall P n_zf33 [(.pointer (some d))] .b R w := by
  apply zf33_call
  obtain ⟨m, L, h1, h2, h⟩ := disk_open.1 h
  refine meq_ptr_nil ?_
  refine mif_ok (fun g => ?_) (fun g => ?_)
  · cases g
  refine mnil_ok ?_
  refine ld_fld h ?_
  exact hR w (disk_open.2 ⟨m, L, h1, h2, h⟩)
theorem mlen_ok {ts : Array TypeId} {t tk te : TypeId} {tm : TypeId} {m : Nat} {kk kv : Kd} {es : List (KT kk × KT kv)} {K : Int → World → Prop} (h : SH o Γ w) [hm : HasM m kk kv es Γ Δ] [ht : TyMp P tm tk te] (hK : K (es.length : Int) w) : mrd P (Builtin.len_ #[tm] t #[.map (some m)]) I K w := by
  obtain ⟨ents, clock, g1, g2⟩ := mp_heap (h.imp fun _ _ => hm.sat.1)
  have hh := g2.heap
  refine ⟨_, ?_, hK⟩
  have hlen : ents.size = es.length := by have := congrArg List.length g1; simpa using this
  simp [Builtin.len_, run_underlying ht.ok, getObj, Sem.run, hh, hlen, goInt, KV]
theorem Append_new {R : Int → World → Prop} {d : Addr} {fs : List DF} {room fuse : Int} {off : Bool} {nm s : Bs} (hn : goodName nm = true) (hnew : ∀ q ∈ fs, q.1 ≠ nm) (hs : s.length ≤ 1099511627) (hr : 0 ≤ room ∧ room ≤ 1099511627) (hf : I64 fuse) (h : SH o (diskA d fs room fuse off :: Γ) w)
    (h4 : off = true → ∀ w', SH o (diskA d fs room fuse off :: Γ) w' → R 4 w')
    (h5 : off = false → (room < blk s.length ∨ 256 ≤ fs.length) → ∀ w', SH o (diskA d fs room fuse off :: Γ) w' → R 5 w')
    (h40 : off = false → blk s.length ≤ room → fuse = 0 → ∀ w', SH o (diskA d (fs ++ [(nm, [], s)]) (room - blk s.length) fuse true :: Γ) w' → R 4 w')
    (h0 : off = false → blk s.length ≤ room → fuse ≠ 0 → ∀ w', SH o (diskA d (fs ++ [(nm, [], s)]) (room - blk s.length) (fuse1 fuse) false :: Γ) w' → R 0 w') : mcall P n_zf1c [(.pointer (some d)), (.string ⟨nm.toArray⟩), (.string ⟨s.toArray⟩)] I R w := by
  apply zf1c_call
  obtain ⟨m, L, e1, e2, h⟩ := disk_open.1 h
  refine bsl_ok h fun x w h => ?_
  refine ready_ok hn h fun w h => ?_
  cases off with
  | true =>
    refine mif_ok (fun g => ?_) (fun g => ?_)
    · exact h4 rfl w (disk_open.2 ⟨m, L, e1, e2, h.drop⟩)
    · simp at g
  | false =>
    refine mif_ok (fun g => ?_) (fun g => ?_)
    · simp at g
    refine mnil_ok ?_
    refine ld_fld0 h ?_
    have hnone : Fnd (L.map fun q => (q.1, some q.2.1)) nm none := by
      intro q hq
      obtain ⟨y, hy, rfl⟩ := List.mem_map.1 hq
      exact hnew (dfOf y) (by rw [← e1]; exact List.mem_map_of_mem hy)
    refine lku_ok h (fun i v hfn => ?_) (fun _ => ?_)
    · exact absurd rfl (hnone _ (List.mem_of_getElem? hfn.1))
    have hb := blk_pos s.length
    refine blocks_ok (by omega) ?_
    refine mne_ptr_nil ?_
    refine mif_ok (fun g2 => ?_) (fun g2 => ?_)
    · cases g2
    unfold zf1c_1
    refine mnil_ok ?_
    refine ld_fld h ?_
    have hlen : L.length = fs.length := by rw [← e1]; simp
    refine mif_ok (fun g3 => ?_) (fun g3 => ?_)
    · exact h5 rfl (.inl (by simpa using g3)) w (disk_open.2 ⟨m, L, e1, e2, h.drop⟩)
    have hroom : blk s.length ≤ room := by simpa using g3
    refine meq_ptr_nil ?_
    refine mif_ok (fun g4 => ?_) (fun g4 => ?_)
    · refine mnil_ok ?_
      refine ld_fld0 h ?_
      refine mlen_ok (ts := #[]) h ?_
      refine mif_ok (fun g5 => ?_) (fun g5 => ?_)
      · exact h5 rfl (.inr (by simp at g5; omega)) w (disk_open.2 ⟨m, L, e1, e2, h.drop⟩)
      unfold zf1c_2
      refine meq_ptr_nil ?_
      refine mif_ok (fun g6 => ?_) (fun g6 => ?_)
      · refine bx_ok h fun f w h => ?_
        refine mnil_ok ?_
        refine ld_fld0 h ?_
        refine mup_ok h (fun i v w hfn h => ?_) (fun w _ h => ?_)
        · exact absurd rfl (hnone _ (List.mem_of_getElem? hfn.1))
        unfold zf1c_3
        refine mnil_ok ?_
        refine ld_fld h ?_
        refine mnil_ok ?_
        dsimp only
        rw [w64_of (by omega) (by omega)]
        refine sto_fld h fun w h => ?_
        refine mnil_ok ?_
        refine ld_fld h ?_
        refine mcat_ok (by simp; omega) ?_
        refine mnil_ok ?_
        refine sto_fld h fun w h => ?_
        rw [List.nil_append] at h
        have h : SH o (vr d ztl zk7 (some m, room - blk s.length, fuse, false, ()) :: vr f ztr zka ([], s, ()) :: mpA m .s .p ((L.map fun q => (q.1, some q.2.1)) ++ [(nm, some f)]) :: (L.map fileA ++ Γ)) w := h.to
        have close : ∀ {fu : Int} {of : Bool} {w}, SH o (vr d ztl zk7 (some m, room - blk s.length, fu, of, ()) :: vr f ztr zka ([], s, ()) :: mpA m .s .p ((L.map fun q => (q.1, some q.2.1)) ++ [(nm, some f)]) :: (L.map fileA ++ Γ)) w →
            SH o (diskA d (fs ++ [(nm, [], s)]) (room - blk s.length) fu of :: Γ) w := by
          intro fu of w h
          refine disk_open.2 ⟨m, L ++ [(nm, f, [], s)], by rw [List.map_append, e1]; rfl, ?_, ?_⟩
          · rw [List.map_append, List.nodup_append]
            refine ⟨e2, by simp, fun a ha b hb => ?_⟩
            simp only [List.map_cons, List.map_nil, List.mem_singleton] at hb
            obtain ⟨q, hq, rfl⟩ := List.mem_map.1 ha
            rw [hb]; exact hnew q hq
          · rw [List.map_append, List.map_append]
            refine h.perm ?_
            refine List.Perm.cons _ ?_
            simp only [List.map_cons, List.map_nil, List.append_assoc, List.cons_append, List.nil_append]
            refine (List.Perm.swap _ _ _).trans (List.Perm.cons _ ?_)
            exact List.perm_middle.symm
        refine burn_ok hf h (fun hz w h => ?_) (fun hz w h => ?_)
        · refine mif_ok (fun g7 => ?_) (fun g7 => ?_)
          · exact h40 rfl hroom hz w (close h)
          · cases g7
        · refine mif_ok (fun g7 => ?_) (fun g7 => ?_)
          · cases g7
          · exact h0 rfl hroom hz w (close h)
      · cases g6
    · cases g4
end
end Go.Proofs.YtpjhflboedicpaaGreatDoor
namespace Go.Proofs.YtpjhflboedicpaaGreatDoor
open Go Go.W
set_option maxRecDepth 100000
section
variable {o : Fix} {Γ Δ : List Assn} {w : World}
def keysOf (L : List Fl) : List (Bs × Option Addr) := L.map fun q => (q.1, some q.2.1)
theorem fnd_key {L : List Fl} {i j : Nat} {q : Fl} {v : Option Addr} (hn : (L.map (·.1)).Nodup) (hq : L[i]? = some q) (h : Fnd (keysOf L) q.1 (some (j, v))) : j = i ∧ v = some q.2.1 := by
  obtain ⟨h1, h2⟩ := h
  obtain ⟨hi, hqe⟩ := List.getElem?_eq_some_iff.1 hq
  simp only [keysOf, List.getElem?_map, Option.map_eq_some_iff] at h1
  obtain ⟨q', hq', he⟩ := h1
  obtain ⟨hj, hqe'⟩ := List.getElem?_eq_some_iff.1 hq'
  have he' := Prod.mk.inj he
  have : j = i := by
    have hp := List.pairwise_iff_getElem.1 hn
    rcases Nat.lt_trichotomy j i with hlt | heq | hgt
    · exact absurd (by rw [List.getElem_map, List.getElem_map, hqe, hqe']; exact he'.1) (hp j i (by simpa using hj) (by simpa using hi) hlt)
    · exact heq
    · exact absurd (by rw [List.getElem_map, List.getElem_map, hqe, hqe']; exact he'.1.symm) (hp i j (by simpa using hi) (by simpa using hj) hgt)
  subst this
  rw [hq] at hq'
  obtain rfl := Option.some.inj hq'
  exact ⟨rfl, he'.2.symm⟩
theorem fnd_none {L : List Fl} {i : Nat} {q : Fl} (hq : L[i]? = some q) : ¬ Fnd (keysOf L) q.1 none := fun h =>
  h (q.1, some q.2.1) (List.mem_map.2 ⟨q, List.mem_of_getElem? hq, rfl⟩) rfl
theorem disk_pick {d : Addr} {fs : List DF} {room fuse : Int} {off : Bool} {i : Nat} {x : DF} (hi : fs[i]? = some x) (h : SH o (diskA d fs room fuse off :: Γ) w) :
    ∃ (m : Nat) (L : List Fl) (f : Addr), L[i]? = some (x.1, f, x.2.1, x.2.2) ∧ (L.map (·.1)).Nodup ∧
      SH o (vr d ztl zk7 (some m, room, fuse, off, ()) :: mpA m .s .p (keysOf L) :: vr f ztr zka (x.2.1, x.2.2, ()) :: ((L.eraseIdx i).map fileA ++ Γ)) w ∧
      (∀ (room' fuse' : Int) (off' : Bool) (a b : Bs) w, SH o (vr d ztl zk7 (some m, room', fuse', off', ()) :: mpA m .s .p (keysOf L) :: vr f ztr zka (a, b, ()) :: ((L.eraseIdx i).map fileA ++ Γ)) w →
        SH o (diskA d (fs.set i (x.1, a, b)) room' fuse' off' :: Γ) w) := by
  obtain ⟨m, L, e1, e2, h⟩ := disk_open.1 h
  rw [← e1, List.getElem?_map, Option.map_eq_some_iff] at hi
  obtain ⟨⟨n, f, su, lo⟩, hq, rfl⟩ := hi
  have e2' : (L.map (·.1)).Nodup := by rw [← e1, List.map_map] at e2; exact e2
  refine ⟨m, L, f, hq, e2', ?_, ?_⟩
  · refine h.perm ?_
    exact (List.Perm.cons _ (List.Perm.cons _ ((map_pick fileA hq).append_right Γ)))
  · intro room' fuse' off' a b w h
    have hset : (L.set i (n, f, a, b))[i]? = some (n, f, a, b) := by rw [List.getElem?_set_self]; exact (List.getElem?_eq_some_iff.1 hq).1
    have hk : keysOf (L.set i (n, f, a, b)) = keysOf L := by
      unfold keysOf; rw [List.map_set]
      apply List.ext_getElem? ; intro j
      rw [List.getElem?_set]
      split
      · rename_i hj; subst hj
        have hlt := (List.getElem?_eq_some_iff.1 hq).1
        simp [hlt, hq]
        exact (List.getElem?_eq_some_iff.1 hq).2 ▸ ⟨rfl, rfl⟩
      · rfl
    refine disk_open.2 ⟨m, L.set i (n, f, a, b), by rw [← e1, List.map_set]; rfl, ?_, ?_⟩
    · rw [List.map_set]
      have : (dfOf (n, f, su, lo)).1 = (fs.map (·.1))[i]?.getD [] := by rw [← e1]; simp [hq, dfOf]
      have hs : ((fs.map (·.1)).set i (dfOf (n, f, su, lo)).1) = fs.map (·.1) := by
        apply List.ext_getElem?; intro j
        rw [List.getElem?_set]
        split
        · rename_i hj; subst hj
          have hlt := (List.getElem?_eq_some_iff.1 hq).1
          rw [← e1]; simp [hlt, hq, dfOf]
          exact (List.getElem?_eq_some_iff.1 hq).2 ▸ rfl
        · rfl
      rw [hs]; exact e2
    · show SH o (vr d ztl zk7 (some m, room', fuse', off', ()) :: mpA m .s .p (keysOf (L.set i (n, f, a, b))) :: ((L.set i (n, f, a, b)).map fileA ++ Γ)) w
      rw [hk]
      refine h.perm ?_
      refine (List.Perm.cons _ (List.Perm.cons _ ?_))
      have := (map_pick fileA hset).append_right Γ
      rw [List.eraseIdx_set_eq] at this
      exact this.symm
theorem Sync_ok {R : Int → World → Prop} {d : Addr} {fs : List DF} {room fuse : Int} {i : Nat} {nm su lo : Bs} (hn : goodName nm = true) (hi : fs[i]? = some (nm, su, lo)) (hl : su.length + lo.length ≤ 1099511627776) (hf : I64 fuse) (h : SH o (diskA d fs room fuse false :: Γ) w)
    (h4 : fuse = 0 → ∀ w', SH o (diskA d fs room fuse true :: Γ) w' → R 4 w')
    (h0 : fuse ≠ 0 → ∀ w', SH o (diskA d (fs.set i (nm, su ++ lo, [])) room (fuse1 fuse) false :: Γ) w' → R 0 w') : mcall P n_zf1d [(.pointer (some d)), (.string ⟨nm.toArray⟩)] I R w := by
  apply zf1d_call
  unfold zf1d_0
  apply zf2p_call
  obtain ⟨m, L, f, hq, hnd, h, close⟩ := disk_pick hi h
  dsimp only at h close
  refine bsl_ok h fun x w h => ?_
  refine ready_ok hn h fun w h => ?_
  refine mif_ok (fun g => ?_) (fun g => ?_)
  · simp at g
  refine mnil_ok ?_
  refine ld_fld0 h ?_
  refine lku_ok h (fun j v hfn => ?_) (fun hfn => ?_)
  · obtain ⟨rfl, rfl⟩ := fnd_key hnd hq hfn
    refine meq_ptr_nil ?_
    refine mif_ok (fun g2 => ?_) (fun g2 => ?_)
    · cases g2
    have h := h.drop
    refine burn_ok hf h (fun hz w h => ?_) (fun hz w h => ?_)
    · refine mif_ok (fun g3 => ?_) (fun g3 => ?_)
      · have h := close room fuse true su lo w h
        have hset : fs.set j (nm, su, lo) = fs := by
          obtain ⟨hl, he⟩ := List.getElem?_eq_some_iff.1 hi
          rw [← he]; exact List.set_getElem_self hl
        rw [hset] at h
        exact h4 hz w h
      · cases g3
    · refine mif_ok (fun g3 => ?_) (fun g3 => ?_)
      · cases g3
      show mcall P n_zf2s [.pointer (some f)] I _ w
      apply zf2s_call
      refine mdraw_ok h fun w h => ?_
      refine mnil_ok ?_
      refine ld_fld0 h ?_
      refine mnil_ok ?_
      refine ld_fld h ?_
      refine mcat_ok (by omega) ?_
      refine mnil_ok ?_
      refine sto_fld0 h fun w h => ?_
      refine mnil_ok ?_
      refine sto_fld h fun w h => ?_
      exact h0 hz w (close _ _ _ _ _ w h.to)
  · exact absurd hfn (fnd_none hq)
theorem Read_ok {R : (Bs × Int × Unit) → World → Prop} {d : Addr} {fs : List DF} {room fuse : Int} {i : Nat} {nm su lo : Bs} (hn : goodName nm = true) (hi : fs[i]? = some (nm, su, lo)) (hl : su.length + lo.length ≤ 1099511627776) (h : SH o (diskA d fs room fuse false :: Γ) w)
    (hR : ∀ w', SH o (diskA d fs room fuse false :: Γ) w' → R (su ++ lo, 0, ()) w') : mcall P n_zf1l [(.pointer (some d)), (.string ⟨nm.toArray⟩)] (.tup [.s, I]) R w := by
  apply zf1l_call
  obtain ⟨m, L, f, hq, hnd, h, close⟩ := disk_pick hi h
  dsimp only at h close
  refine bsl_ok h fun x w h => ?_
  refine ready_ok hn h fun w h => ?_
  refine mif_ok (fun g => ?_) (fun g => ?_)
  · simp at g
  refine mnil_ok ?_
  refine ld_fld0 h ?_
  refine lku_ok h (fun j v hfn => ?_) (fun hfn => ?_)
  · obtain ⟨rfl, rfl⟩ := fnd_key hnd hq hfn
    refine meq_ptr_nil ?_
    refine mif_ok (fun g2 => ?_) (fun g2 => ?_)
    · cases g2
    have h := h.drop
    refine mdraw_ok h fun w h => ?_
    refine mnil_ok ?_
    refine ld_fld0 h ?_
    refine mnil_ok ?_
    refine ld_fld h ?_
    refine mcat_ok (by omega) ?_
    have hset : fs.set j (nm, su, lo) = fs := by
      obtain ⟨hl, he⟩ := List.getElem?_eq_some_iff.1 hi
      rw [← he]; exact List.set_getElem_self hl
    have h := close room fuse false su lo w h.to
    rw [hset] at h
    exact hR w h
  · exact absurd hfn (fnd_none hq)
end
end Go.Proofs.YtpjhflboedicpaaGreatDoor
namespace Go.Proofs.YtpjhflboedicpaaGreatDoor
open Go Go.W
set_option maxRecDepth 100000
section
variable {o : Fix} {Γ Δ : List Assn} {w : World}
theorem Len_index {R : Int → World → Prop} (h : SH o Γ w) (hR : ∀ i w', SH o Γ w' → R i w') : mcall P n_zf46 [(.int .u64 0)] I R w := by
  apply zf46_call
  apply zf4x_call
  refine mif_ok (fun g => ?_) (fun _ => ?_)
  · cases g
  refine mif_ok (fun g => ?_) (fun _ => ?_)
  · cases g
  refine mif_ok (fun g => ?_) (fun _ => ?_)
  · cases g
  exact ⟨0, by kernel_rfl, hR _ w h⟩
theorem Sort_nil {R : Unit → World → Prop} {l : Sl} (h : SH o Γ w) (hl : l.len = 0) (hR : ∀ w', SH o Γ w' → R () w') : mcall P n_zf2v [(Sl.v l)] (.tup []) R w := by
  apply zf2v_call
  unfold zf2v_0
  rw [hl]
  refine Len_index h fun i w h => ?_
  apply zf45_call
  unfold zf45_0 zf45_1
  refine loop_ok (fun (_ : Unit) t w => t = (0, 0, i, true, true, ()) ∧ SH o Γ w) (fun _ => 0) () ⟨rfl, h⟩ ?_
  rintro _ _ w cont ⟨rfl, h⟩ _
  unfold zf45_2
  refine mif_ok (fun _ => ?_) (fun g => ?_)
  · apply zf4o_call
    unfold zf4o_0 zf4o_1
    refine loop_ok (fun (_ : Unit) t w => t = (1, ()) ∧ SH o Γ w) (fun _ => 0) () ⟨rfl, h⟩ ?_
    rintro _ _ w cont ⟨rfl, h⟩ _
    unfold zf4o_2
    refine mif_ok (fun g => ?_) (fun _ => ?_)
    · cases g
    exact hR w h
  · cases g
theorem Keys_nil {R : Unit → World → Prop} {Y : Value} {v : Addr} {m : Nat} (h : SH o (vr v ztk .m (some m) :: mpA m .s .p [] :: Γ) w) (hR : ∀ w', SH o (mpA m .s .p [] :: Γ) w' → R () w') :
    mcall P n_zf2w [Y, .pointer (some v)] (.tup []) R w := by
  apply zf2w_call
  refine ld_fld0 h ?_
  have h : SH o (mpA m .s .p [] :: vr v ztk .m (some m) :: Γ) w := h.swap
  obtain ⟨ents, clock, he, h⟩ := mp_heap h
  have he : ents = #[] := by
    have := congrArg List.length he
    simp only [List.length_map, List.length_nil] at this
    exact Array.eq_empty_of_size_eq_zero (by simpa using this)
  subst he
  have hm := h.heap
  have hu := (inferInstance : TyMp P ztk zt4 ztq).ok
  refine ⟨.pointer (some ⟨w.heap.size, 0, none⟩), w.alloc (.mapIter (some m) clock #[] clock), ?_, ?_⟩
  · simp [Instr.range, run_underlying hu, getObj, newObj, Sem.run, hm, KV]
  have h := h.allocObj (.mapIter (some m) clock #[] clock)
  generalize w.heap.size = r at h
  generalize w.alloc _ = w at h
  unfold zf2w_1
  refine loop_ok (fun (_ : Unit) t w => SH o (objA r (.mapIter (some m) clock #[] clock) :: objA m (.map #[] clock) :: vr v ztk .m (some m) :: Γ) w) (fun _ => 0) () h ?_
  rintro _ _ w cont h _
  unfold zf2w_2
  refine ⟨.tuple #[.bool false], w, ?_, .inl ⟨rfl, ?_⟩⟩
  · rcases run_next_at (P := P) w zt0 r m clock clock #[] #[] clock h.heap h.swap.heap (by simp) (Nat.le_refl _) with ⟨_, e⟩ | ⟨e, hh, _⟩
    · exact e
    · simp [leftOf] at hh
  have h := h.drop
  refine hR w ?_
  have h : SH o (mpA m .s .p [] :: vr v ztk .m (some m) :: Γ) w := h.conseq fun π h hp => ⟨#[], clock, rfl, ⟨by simp, by simp⟩, hp⟩
  exact h.to
end
end Go.Proofs.YtpjhflboedicpaaGreatDoor
namespace Go.Proofs.YtpjhflboedicpaaGreatDoor
open Go Go.W
set_option maxRecDepth 100000
section
variable {o : Fix} {Γ Δ : List Assn} {w : World}
theorem AppendSeq_nil {R : Sl → World → Prop} {v : Addr} {m : Nat} (h : SH o (vr v ztk .m (some m) :: mpA m .s .p [] :: Γ) w)
    (hR : ∀ w', SH o (mpA m .s .p [] :: Γ) w' → R ⟨none, 0, 0⟩ w') :
    mcall P n_zf44 [(Sl.v ⟨none, 0, 0⟩), .func (.func n_zf2w) #[] #[.pointer (some v)]] .sl R w := by
  refine mcall_marks zf44_get (c := zf44_B) (n := 13) (by kernel_rfl) (by kernel_rfl) (by kernel_rfl) (by kernel_rfl) ?_
  have hpre : (bx P ztp .sl ⟨none, 0, 0⟩ fun a1 => fun w =>
      ((Value.func (.func n_zf2w) #[] #[.pointer (some v)], a1, ()) : Value × Addr × Unit).1 = .func (.func n_zf2w) #[] #[.pointer (some v)] ∧
      SH o (vr ((Value.func (.func n_zf2w) #[] #[.pointer (some v)], a1, ()) : Value × Addr × Unit).2.1 ztp .sl ⟨none, 0, 0⟩ :: vr v ztk .m (some m) :: mpA m .s .p [] :: Γ) w) w := by
    refine bx_ok h fun a1 w h => ?_
    exact ⟨rfl, h⟩
  refine pm_cut (l := [(1, .v), (2, .ad)]) (F := fun x w => x.1 = .func (.func n_zf2w) #[] #[.pointer (some v)] ∧ SH o (vr x.2.1 ztp .sl ⟨none, 0, 0⟩ :: vr v ztk .m (some m) :: mpA m .s .p [] :: Γ) w)
    (c' := Code.at zf44_B [.snd]) hmix 1 (by simp [argE]) (by kernel_rfl) (by kernel_rfl) ?_ hpre
  clear hpre h
  rintro ⟨q, a1, _⟩ w ⟨rfl, h⟩
  dsimp only at h ⊢
  refine pm_seq (a := Code.at zf44_B [.snd, .fst]) (b := Code.at zf44_B [.snd, .snd]) (by kernel_rfl)
    (K := fun env ds w => ∃ d v6, env = mkE 13 [(2, .ad), (6, .v)] (a1, v6, ()) ∧ ds = [d] ∧ SH o (dfA d :: vr a1 ztp .sl ⟨none, 0, 0⟩ :: mpA m .s .p [] :: Γ) w) ?_ ?_
  · refine pm_cut (l := [(2, .ad), (6, .v)]) (F := fun x w => x.1 = a1 ∧ x.2.1 = .func (.func n_zf2w) #[] #[.pointer (some v)] ∧ SH o (vr a1 ztp .sl ⟨none, 0, 0⟩ :: vr v ztk .m (some m) :: mpA m .s .p [] :: Γ) w)
      (T := (fun w => a1 = a1 ∧ Value.func (.func n_zf2w) #[] #[.pointer (some v)] = .func (.func n_zf2w) #[] #[.pointer (some v)] ∧ SH o (vr a1 ztp .sl ⟨none, 0, 0⟩ :: vr v ztk .m (some m) :: mpA m .s .p [] :: Γ) w) w)
      (c' := Code.at zf44_B [.snd, .fst, .snd]) hmix 1 (mkE_len ..) (by kernel_rfl) (by kernel_rfl) ?_ ⟨rfl, rfl, h⟩
    clear h
    rintro ⟨b1, q, _⟩ w ⟨rfl, h9, h⟩
    dsimp only at h9 h ⊢
    subst h9
    refine pm_block (id := 0) (c := Code.at zf44_B [.snd, .fst, .snd, .blk]) (by kernel_rfl) ?_
    have hcode : Code.at zf44_B [.snd, .fst, .snd, .blk] = .rangeFunc (.tmp 6) #[7] (Code.at zf44_B [.snd, .fst, .snd, .blk, .fst]) (Code.at zf44_B [.snd, .fst, .snd, .blk, .blk]) := by kernel_rfl
    rw [hcode]
    refine WPM.range h (gf := n_zf2w) (lb := #[.pointer (some v)]) rfl zf2w_ent ?_
    clear h
    intro l r D w hps has hbo hn hRel h
    refine Keys_nil (v := v) (m := m) (Γ := rfA l r .ready none :: dfA r.d :: vr b1 ztp .sl ⟨none, 0, 0⟩ :: Γ) h.to fun w h => ?_
    refine ⟨.ready, none, dfA r.d :: vr b1 ztp .sl ⟨none, 0, 0⟩ :: mpA m .s .p [] :: Γ, by simp, h.to, fun w h => ?_⟩
    exact ⟨r.d, _, rfl, rfl, h⟩
  · rintro _ _ w hl ⟨d, v6, rfl, rfl, h⟩
    refine pm_code hmix (T := (ld P ztp a1 .sl fun (x3 : Sl) => mtake P [d] (R x3)) w) (by kernel_rfl) ?_
    refine ld_fld0 h ?_
    refine mtake_ok (Γ := vr a1 ztp .sl ⟨none, 0, 0⟩ :: mpA m .s .p [] :: Γ) h fun w h => ?_
    exact hR w h.drop
theorem Files_nil {R : Sl → World → Prop} {d : Addr} {room fuse : Int} {off : Bool} (h : SH o (diskA d [] room fuse off :: Γ) w) (hR : ∀ w', SH o (diskA d [] room fuse off :: Γ) w' → R ⟨none, 0, 0⟩ w') :
    mcall P n_zf19 [(.pointer (some d))] .sl R w := by
  apply zf19_call
  obtain ⟨m, L, e1, e2, h⟩ := disk_open.1 h
  obtain rfl : L = [] := by simpa using e1
  have h : SH o (vr d ztl zk7 (some m, room, fuse, off, ()) :: mpA m .s .p [] :: Γ) w := h
  refine meq_ptr_nil ?_
  refine mif_ok (fun g => ?_) (fun g => ?_)
  · cases g
  unfold zf19_1 zf19_3
  refine mnil_ok ?_
  refine ld_fld0 h ?_
  apply zf1i_call
  refine bx_ok h fun v w h => ?_
  have h : SH o (vr v ztk .m (some m) :: vr d ztl zk7 (some m, room, fuse, off, ()) :: mpA m .s .p [] :: Γ) w := h
  apply zf1h_call
  apply zf2u_call
  refine AppendSeq_nil (v := v) (m := m) (Γ := vr d ztl zk7 (some m, room, fuse, off, ()) :: Γ) h.to fun w h => ?_
  refine Sort_nil h rfl fun w h => ?_
  unfold zf19_4
  refine loop_ok (fun (_ : Unit) t w => t = (⟨none, 0, 0⟩, 0, ()) ∧ SH o (mpA m .s .p [] :: vr d ztl zk7 (some m, room, fuse, off, ()) :: Γ) w) (fun _ => 0) () ⟨rfl, h⟩ ?_
  rintro _ _ w cont ⟨rfl, h⟩ _
  unfold zf19_5
  refine mif_ok (fun g => ?_) (fun _ => ?_)
  · cases g
  exact hR w (disk_open.2 ⟨m, [], rfl, by simp, h.swap⟩)
end
end Go.Proofs.YtpjhflboedicpaaGreatDoor
namespace Go.Proofs.YtpjhflboedicpaaGreatDoor
open Go Go.W
set_option maxRecDepth 100000
section
variable {o : Fix} {Γ Δ : List Assn} {w : World}
def letters36 : Bs := [97, 98, 99, 100, 101, 102, 103, 104, 105, 106, 107, 108, 109, 110, 111, 112, 113, 114, 115, 116, 117, 118, 119, 120, 121, 122, 48, 49, 50, 51, 52, 53, 54, 55, 56, 57]
theorem segNamed_ok {R : Bool → World → Prop} {n : Bs} (h0 : n ≠ []) (h8 : n.length ≤ 8) (hin : ∀ c ∈ n, c ∈ letters36) (h : SH o Γ w) (hR : ∀ w', SH o Γ w' → R true w') : mcall P n_zf32 [(.string ⟨n.toArray⟩)] .b R w := by
  apply zf32_call
  refine mif_ok (fun g => ?_) (fun g => ?_)
  · refine mif_ok (fun g2 => ?_) (fun g2 => ?_)
    · refine Trim_ok (cs := letters36) h0 (by omega) (by decide) (by decide) (by decide) hin h fun w h => ?_
      exact hR w h
    · simp at g2; omega
  · exact absurd (by simpa using g) h0
def digs : Nat → Int → List Int
  | 0, _ => []
  | k + 1, b => digs k (b / 10) ++ [48 + b % 10]
def segFile (name : Bs) (base : Int) : Bs := name ++ [46] ++ bytesOf (digs 13 base)
theorem file_ok {R : Bs → World → Prop} {lg : Addr} {x : zTb} {base : Int} (hb : 0 ≤ base ∧ base ≤ 9223372036854775807) (hl : x.2.1.length ≤ 1000) (h : SH o Γ w) [hx : RdV lg zt13 zkb x Γ] (hR : ∀ w', SH o Γ w' → R (segFile x.2.1 base) w') :
    mcall P n_zf37 [(.pointer (some lg)), (.int .i64 base)] .s R w := by
  obtain ⟨xd, nm, xs, x1, x2, x3, x4, _⟩ := x
  dsimp only at hl hR
  apply zf37_call
  refine alo_arr (n := 13) (k := .i .u8) (z := (0 : Int)) h (by kernel_rfl) fun a w hs h => ?_
  unfold zf37_1 zf37_3 zf37_4
  refine loop_ok (fun (g : Nat × Int × List Int) s w => s = (g.2.1, (g.1 : Int) - 1, ()) ∧ g.1 + g.2.2.length = 13 ∧ 0 ≤ g.2.1 ∧ g.2.1 ≤ 9223372036854775807 ∧ digs g.1 g.2.1 ++ g.2.2 = digs 13 base ∧
    ∃ pre : List Int, pre.length = g.1 ∧ SH o (slO (arS a 13) zt1f (.i .u8) (pre ++ g.2.2) :: Γ) w) (fun g => g.1) (13, base, [])
    ⟨rfl, rfl, hb.1, hb.2, by simp, List.replicate 13 0, by simp, by simpa using h⟩ ?_
  rintro ⟨k, b, suf⟩ _ w cont ⟨rfl, hk, hb0, hb1, hd, pre, hp, h⟩ hc
  simp only at hk hb0 hb1 hd hp h
  dsimp only
  unfold zf37_5
  refine mif_ok (fun g => ?_) (fun g => ?_)
  · obtain ⟨k, rfl⟩ : ∃ j, k = j + 1 := ⟨k - 1, by simp at g; omega⟩
    refine ixa_arr hs (by omega) (by omega) fun e ea => ?_
    refine sto_el ea h (by simp; omega) fun w h => ?_
    have e1 : Int.tmod b 10 = b % 10 := Int.tmod_eq_emod_of_nonneg hb0
    have e2 : Int.tdiv b 10 = b / 10 := Int.tdiv_eq_ediv_of_nonneg hb0
    rw [e1, w64_of (x := 48 + b % 10) (by omega) (by omega), wr8_eq] at h
    rw [e2, w64_of (by omega) (by omega), w64_of (by omega) (by omega)]
    refine hc (k, b / 10, (48 + b % 10) :: suf) _ w (by simp only; omega) ⟨by simp only; congr 2; omega, by simp only [List.length_cons]; omega, by simp only; omega, by simp only; omega, ?_, pre.take k, ?_, ?_⟩
    · rw [← hd]; simp [digs]
    · simp; omega
    · have e3 : (pre ++ suf).set ((((k + 1 : Nat) : Int) - 1).toNat) ((48 + b % 10) % 256) = pre.take k ++ (48 + b % 10) :: suf := by
        have e4 : (((k + 1 : Nat) : Int) - 1).toNat = k := by omega
        have e5 : (48 + b % 10) % 256 = 48 + b % 10 := by omega
        rw [e4, e5, List.set_append_left _ _ (by omega), List.set_eq_take_append_cons_drop, if_pos (by omega), List.drop_eq_nil_of_le (by omega)]
        simp
      rw [e3] at h
      exact h
  · obtain rfl : k = 0 := by simp at g; omega
    obtain rfl : pre = [] := List.length_eq_zero_iff.1 hp
    unfold zf37_2
    refine mdraw_ok h fun w h => ?_
    refine mnil_ok ?_
    refine ld_fld h ?_
    refine mcat_ok (by show nm.length + 1 ≤ _; omega) ?_
    refine slc_arr (m := 13) (.inl ⟨rfl, rfl⟩) ?_ hs
    have hrd := h.rd (s := arS a 13)
    refine conv_bs hrd ?_
    refine mcat_ok (by simp only [List.length_append, bytesOf, List.length_map, List.length_nil, List.length_cons]; omega) ?_
    have hd : suf = digs 13 base := by simpa [digs] using hd
    rw [List.nil_append, hd]
    exact hR w h.drop
theorem First_ok {R : Int → World → Prop} {lg : Addr} {x : zTb} (h : SH o Γ w) [hx : RdV lg zt13 zkb x Γ] (hR : R x.2.2.2.1 w) : mcall P n_zf1q [(.pointer (some lg))] I R w := by
  apply zf1q_call
  refine meq_ptr_nil ?_
  refine mif_ok (fun g => ?_) (fun g => ?_)
  · cases g
  refine mnil_ok ?_
  refine ld_fld h ?_
  exact hR
theorem Next_ok {R : Int → World → Prop} {lg : Addr} {x : zTb} (h : SH o Γ w) [hx : RdV lg zt13 zkb x Γ] (hR : R x.2.2.2.2.1 w) : mcall P n_zf1r [(.pointer (some lg))] I R w := by
  apply zf1r_call
  refine meq_ptr_nil ?_
  refine mif_ok (fun g => ?_) (fun g => ?_)
  · cases g
  refine mnil_ok ?_
  refine ld_fld h ?_
  exact hR
theorem Broken_ok {R : Int → World → Prop} {lg : Addr} {x : zTb} (h : SH o Γ w) [hx : RdV lg zt13 zkb x Γ] (hR : R x.2.2.2.2.2.2.1 w) : mcall P n_zf1x [(.pointer (some lg))] I R w := by
  apply zf1x_call
  refine meq_ptr_nil ?_
  refine mif_ok (fun g => ?_) (fun g => ?_)
  · cases g
  refine mnil_ok ?_
  refine ld_fld h ?_
  exact hR
theorem SegOpen_nil {R : (Option Addr × Int × Unit) → World → Prop} {d : Addr} {room fuse : Int} {name : Bs} (h0 : name ≠ []) (h8 : name.length ≤ 8) (hin : ∀ c ∈ name, c ∈ letters36) (h : SH o (diskA d [] room fuse false :: Γ) w)
    (hR : ∀ l w', SH o (vr l zt13 zkb (some d, name, ⟨none, 0, 0⟩, 0, 0, 0, 0, ()) :: diskA d [] room fuse false :: Γ) w' → R (some l, 0, ()) w') :
    mcall P n_zf1p [(.pointer (some d)), (.string ⟨name.toArray⟩)] (.tup [.p, I]) R w := by
  apply zf1p_call
  refine meq_ptr_nil ?_
  refine mif_ok (fun g => ?_) (fun g => ?_)
  · cases g
  refine segNamed_ok h0 h8 hin h fun w h => ?_
  refine mif_ok (fun g => ?_) (fun g => ?_)
  · cases g
  refine Off_ok h fun w h => ?_
  refine mif_ok (fun g => ?_) (fun g => ?_)
  · cases g
  refine bx_ok h fun l w h => ?_
  refine Files_nil (Γ := vr l zt13 zkb (some d, name, ⟨none, 0, 0⟩, 0, 0, 0, 0, ()) :: Γ) h.swap fun w h => ?_
  unfold zf1p_1 zf1p_9 zf1p_10
  refine loop_ok (fun (_ : Unit) t w => t = (([] : Bs), 0, ()) ∧ SH o (diskA d [] room fuse false :: vr l zt13 zkb (some d, name, ⟨none, 0, 0⟩, 0, 0, 0, 0, ()) :: Γ) w) (fun _ => 0) () ⟨rfl, h⟩ ?_
  rintro _ _ w cont ⟨rfl, h⟩ _
  unfold zf1p_11
  refine mif_ok (fun g => ?_) (fun g => ?_)
  · cases g
  unfold zf1p_2 zf1p_5 zf1p_6
  refine loop_ok (fun (_ : Unit) t w => t = (0, ()) ∧ SH o (diskA d [] room fuse false :: vr l zt13 zkb (some d, name, ⟨none, 0, 0⟩, 0, 0, 0, 0, ()) :: Γ) w) (fun _ => 0) () ⟨rfl, h⟩ ?_
  rintro _ _ w cont ⟨rfl, h⟩ _
  unfold zf1p_7
  refine mif_ok (fun g => ?_) (fun g => ?_)
  · cases g
  unfold zf1p_3
  refine mif_ok (fun g => ?_) (fun g => ?_)
  · cases g
  unfold zf1p_4
  refine ld_fld h ?_
  refine sto_fld h fun w h => ?_
  exact hR l w h
end
end Go.Proofs.YtpjhflboedicpaaGreatDoor
