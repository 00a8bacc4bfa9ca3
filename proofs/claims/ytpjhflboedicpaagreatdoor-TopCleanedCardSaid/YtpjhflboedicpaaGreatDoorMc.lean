/- Contracts of functions of the program, proved on their short texts. No condition. -/
import Derived.Test.YtpjhflboedicpaaGreatDoorMb
import Derived.Laws.StructEq
import Derived.ChangeKeysEq
import Derived.Laws.Cover3
set_option linter.unusedVariables false
set_option linter.unusedSimpArgs false
namespace Go.Proofs.YtpjhflboedicpaaGreatDoor
open Go Go.W
set_option maxRecDepth 100000
section
variable {o : Fix} {Γ Δ : List Assn} {w : World}
theorem mst_elf {s : Sl} {t' : TypeId} {k k' : Kd} {xs : List (KT k)} {i n : Nat} {a : Addr} {x : KT k} {y : KT k'} {v : Value} {K : World → Prop} (ea : EA s k i a) (h : SH o Γ w) [hr : RdS s k xs Γ] [TyK P t' k']
    (hx : xs[i]? = some x) (hK : K w) (hg : getT k n k' x = some y := by rfl) (hv : KV k' y = v := by rfl) : mst P (Instr.loadAt t' (.pointer (some (ad a n)))) v K w := by
  have : ld P t' (ad a n) k' (fun z w' => w' = w ∧ z = y) w := ld_elf ea h hx ⟨rfl, rfl⟩ hg
  obtain ⟨z, hz, _, rfl⟩ := this
  exact ⟨by rw [hz, hv], hK⟩
theorem took_new {R : Unit → World → Prop} {s : Sl} {xs : List zTg} {i : Nat} {a : Addr} {base bytes cnt n : Int} {e : Ent} (ea : EA s zkg i a) (hx : xs[i]? = some ((base, bytes, cnt, ()), ⟨none, 0, 0⟩, ()))
    (hb : 0 ≤ bytes ∧ bytes ≤ 1099511627776) (hn : 0 ≤ n ∧ n ≤ 1099511627776) (hc : 0 ≤ cnt ∧ cnt ≤ 1099511627776) (h : SH o (slO s zt15 zkg xs :: Γ) w)
    (hR : ∀ m w', SH o (slO s zt15 zkg (xs.set i ((base, bytes + n, cnt + 1, ()), m, ())) :: slO m zt1g zk0 [(e.1, base, bytes, ())] :: Γ) w' → R () w') :
    mcall P n_zf49 [(.pointer (some a)), (KV zk2 e), (.int .i64 n)] (.tup []) R w := by
  apply zf49_call
  have hi : i < xs.length := (List.getElem?_eq_some_iff.1 hx).1
  refine bx_ok h fun b w h => ?_
  refine mnil_ok ?_
  refine ld_elf ea h hx ?_
  refine mdraw_ok h fun w h => ?_
  refine mif_ok (fun g => ?_) (fun g => ?_)
  · refine mdraw_ok h fun w h => ?_
    refine mnil_ok ?_
    refine ld_elf ea h hx ?_
    refine ld_fld0 h ?_
    refine mnil_ok ?_
    refine ld_elf0 ea h hx ?_
    refine mnil_ok ?_
    refine ld_elf ea h hx ?_
    refine bsl_ok h fun u w h => ?_
    refine mst_elf ea h hx ?_
    have h := h.nilS zt1g zk0
    refine app_ok h (by simp) (fun y _ => okV_plain rfl y) fun m w h => ?_
    refine mnil_ok ?_
    refine sto_elf ea h hx fun w h => ?_
    unfold zf49_1
    have hx1 : (xs.set i ((base, bytes, cnt, ()), m, ()))[i]? = some ((base, bytes, cnt, ()), m, ()) := List.getElem?_set_self hi
    refine mnil_ok ?_
    refine ld_elf ea h hx1 ?_
    refine mnil_ok ?_
    dsimp only
    rw [w64_of (by omega) (by omega)]
    refine sto_elf ea h hx1 fun w h => ?_
    have hx2 : ((xs.set i ((base, bytes, cnt, ()), m, ())).set i ((base, bytes + n, cnt, ()), m, ()))[i]? = some ((base, bytes + n, cnt, ()), m, ()) := List.getElem?_set_self (by simpa using hi)
    refine mnil_ok ?_
    refine ld_elf ea h hx2 ?_
    refine mnil_ok ?_
    dsimp only
    rw [w64_of (by omega) (by omega)]
    refine sto_elf ea h hx2 fun w h => ?_
    refine hR m w ?_
    rw [List.set_set, List.set_set] at h
    dsimp only [List.nil_append] at h
    exact h.to
  · cases g
theorem Join_one {R : Bs → World → Prop} {l : Sl} {s sep : Bs} (h : SH o Γ w) [hr : RdS l .s [s] Γ] (hR : R s w) : mcall P n_zf4j [(Sl.v l), (.string ⟨sep.toArray⟩)] .s R w := by
  apply zf4j_call
  have hlen := h.len (s := l)
  simp only [List.length_cons, List.length_nil] at hlen
  refine mif_ok (fun g => ?_) (fun g => ?_)
  · simp at g; omega
  refine mif_ok (fun g2 => ?_) (fun g2 => ?_)
  · refine ixa_ok h (by omega) (by omega) fun e ea => ?_
    refine ld_el ea h rfl ?_
    exact hR
  · simp at g2; omega
theorem active_nil {R : (Option Addr) → World → Prop} {lg : Addr} {x : zTb} (h : SH o Γ w) [hx : RdV lg zt13 zkb x Γ] (hs : x.2.2.1.len = 0) (hR : R none w) : mcall P n_zf4i [(.pointer (some lg))] .p R w := by
  apply zf4i_call
  refine mnil_ok ?_
  refine ld_fld h ?_
  refine mif_ok (fun g => ?_) (fun g => ?_)
  · simp [hs] at g
  exact hR
theorem segFile_good {name : Bs} (h8 : name.length ≤ 8) (hin : ∀ c ∈ name, c ∈ letters36) : goodName (segFile name 0) = true := by
  have e : bytesOf (digs 13 0) = [48, 48, 48, 48, 48, 48, 48, 48, 48, 48, 48, 48, 48] := by decide
  have hl : ∀ c ∈ letters36, c ∈ letters := by decide
  unfold segFile goodName
  rw [e]
  simp only [Bool.and_eq_true, decide_eq_true_eq, List.all_eq_true]
  refine ⟨⟨by simp, by simp; omega⟩, fun c hc => ?_⟩
  simp only [List.append_assoc, List.mem_append] at hc
  rcases hc with hc | hc
  · simpa using hl c (hin c hc)
  · have : ∀ c ∈ ([46] ++ [48, 48, 48, 48, 48, 48, 48, 48, 48, 48, 48, 48, 48] : Bs), letters.contains c = true := by decide
    exact this c (by simpa using hc)
theorem SegAppend_first {R : (Int × Int × Unit) → World → Prop} {d lg : Addr} {it : Sl} {room : Int} {name text : Bs} {n : Int} (h0 : name ≠ []) (h8 : name.length ≤ 8) (hin : ∀ c ∈ name, c ∈ letters36)
    (hc : fcheck (0, n, text, ()) = true) (hfl : (flay (0, n, text, ())).length ≤ 1099511627) (hroom : blk (flay (0, n, text, ())).length ≤ room ∧ room ≤ 1099511627) (h : SH o (vr lg zt13 zkb (some d, name, ⟨none, 0, 0⟩, 0, 0, 0, 0, ()) :: diskA d [] room (-1) false :: Γ) w)
    [hit : RdS it zke [(n, text, ())] Γ]
    (hR : ∀ S M w', SH o (vr lg zt13 zkb (some d, name, S, 0, n, 0, 0, ()) :: slO S zt15 zkg [((0, (flay (0, n, text, ())).length, 1, ()), M, ())] :: slO M zt1g zk0 [(0, 0, 0, ())] ::
      diskA d [(segFile name 0, [], flay (0, n, text, ()))] (room - blk (flay (0, n, text, ())).length) (-1) false :: Γ) w' → R (0, 0, ()) w') :
    mcall P n_zf3g [(.pointer (some lg)), (Sl.v it)] (.tup [I, I]) R w := by
  apply zf3g_call
  have hlen := (h.drop.drop).len (s := it)
  simp only [List.length_cons, List.length_nil] at hlen
  have hn : 1 ≤ n ∧ n ≤ 64 := by have := hc; simp [fcheck] at this; omega
  refine meq_ptr_nil ?_
  refine mif_ok (fun g => ?_) (fun g => ?_)
  · cases g
  refine mif_ok (fun g => ?_) (fun g => ?_)
  · simp at g; omega
  refine mnil_ok ?_
  refine ld_fld h ?_
  refine mif_ok (fun g => ?_) (fun g => ?_)
  · cases g
  refine mnil_ok ?_
  refine ld_fld h ?_
  unfold zf3g_1 zf3g_9 zf3g_10
  refine loop_ok (fun (i : Nat) t w => (i = 0 ∧ t = (⟨none, 0, 0⟩, ⟨none, 0, 0⟩, 0, 0, ()) ∧ SH o (vr lg zt13 zkb (some d, name, ⟨none, 0, 0⟩, 0, 0, 0, 0, ()) :: diskA d [] room (-1) false :: Γ) w) ∨
    (i = 1 ∧ ∃ E T, t = (E, T, n, 1, ()) ∧ SH o (slO T zt4 .s [flay (0, n, text, ())] :: slO E zty zk2 [(0, n, text, ())] :: vr lg zt13 zkb (some d, name, ⟨none, 0, 0⟩, 0, 0, 0, 0, ()) :: diskA d [] room (-1) false :: Γ) w)) (fun i => 2 - i) 0 (.inl ⟨rfl, rfl, h⟩) ?_
  clear h
  rintro i _ w cont hinv hcont
  rcases hinv with ⟨rfl, rfl, h⟩ | ⟨rfl, E, T, rfl, h⟩
  · unfold zf3g_11
    dsimp only
    refine mif_ok (fun g => ?_) (fun g => ?_)
    · refine ixa_ok h (by omega) (by omega) fun e ea => ?_
      refine ld_el ea h rfl ?_
      refine alo_ok h fun a w h => ?_
      refine sto_var h fun w h => ?_
      refine ld_fld0 h ?_
      refine ld_fld h ?_
      refine alo_ok h fun b w h => ?_
      refine sto_var h fun w h => ?_
      refine ld_var h ?_
      refine Lay_ok (e := (0, n, text, ())) h fun w h => ?_
      rw [if_pos hc]
      refine mif_ok (fun g => ?_) (fun g => ?_)
      · cases g
      refine ld_fld0 h ?_
      refine mif_ok (fun g => ?_) (fun g => ?_)
      · rw [w64_of (by omega) (by omega)] at g; simp at g; omega
      refine ld_var h ?_
      refine bsl_ok h fun u w h => ?_
      have h := h.nilS zty zk2
      refine app_ok h (by simp) (fun y _ => okV_plain rfl y) fun E w h => ?_
      refine bsl_ok h fun u2 w h => ?_
      have h := h.nilS zt4 .s
      refine app_ok h (by simp) (fun y _ => okV_plain rfl y) fun T w h => ?_
      refine ld_fld0 h ?_
      rw [w64_of (by omega) (by omega), w64_of (by omega) (by omega)]
      refine hcont 1 _ w (by omega) (.inr ⟨rfl, E, T, by rw [Int.zero_add]; rfl, ?_⟩)
      dsimp only [List.nil_append] at h
      exact h.to
    · simp at g; omega
  · unfold zf3g_11
    dsimp only
    refine mif_ok (fun g => ?_) (fun g => ?_)
    · simp at g; omega
    unfold zf3g_2
    refine active_nil h rfl ?_
    refine meq_ptr_nil ?_
    refine mif_ok (fun g => ?_) (fun g => ?_)
    · refine mnil_ok ?_
      refine ld_fld h ?_
      refine mif_ok (fun g => ?_) (fun g => ?_)
      · cases g
      refine mnil_ok ?_
      refine ld_fld h ?_
      refine bx_ok h fun sg w h => ?_
      unfold zf3g_3
      refine mdraw_ok h fun w h => ?_
      refine mnil_ok ?_
      refine ld_fld0 h ?_
      refine mnil_ok ?_
      refine ld_fld0 h ?_
      dsimp only
      refine file_ok (lg := lg) ⟨by omega, by omega⟩ (by show name.length ≤ 1000; omega) h fun w h => ?_
      refine mst_fld0 (a := lg) h ?_
      refine Join_one h ?_
      refine mst_fld0 (a := lg) h ?_
      have h : SH o (diskA d [] room (-1) false :: slO T zt4 .s [flay (0, n, text, ())] :: slO E zty zk2 [(0, n, text, ())] :: vr lg zt13 zkb (some d, name, ⟨none, 0, 0⟩, 0, 0, 0, 0, ()) :: vr sg zt15 zkg ((0, 0, 0, ()), ⟨none, 0, 0⟩, ()) :: Γ) w := h.to
      have hbp := blk_pos (flay (0, n, text, ())).length
      refine Append_new (segFile_good h8 hin) (by simp) hfl ⟨by omega, by omega⟩ ⟨by omega, by omega⟩ h (fun hz => by cases hz) (fun _ hz => ?_) (fun _ _ hz => by omega) (fun _ _ _ w h => ?_)
      · simp at hz; omega
      rw [show fuse1 (-1) = -1 by decide] at h
      refine mif_ok (fun g => ?_) (fun g => ?_)
      · cases g
      refine mnil_ok ?_
      refine sto_fld h fun w h => ?_
      refine mif_ok (fun g => ?_) (fun g => ?_)
      · cases g
      refine active_nil (lg := lg) h rfl ?_
      refine meq_ptr_nil ?_
      refine mif_ok (fun g => ?_) (fun g => ?_)
      · refine mdraw_ok h fun w h => ?_
        refine mnil_ok ?_
        refine ld_fld h ?_
        refine mnil_ok ?_
        refine ld_var h ?_
        refine bsl_ok h fun u w h => ?_
        refine mst_fld (a := lg) h ?_
        have h := h.nilS zt15 zkg
        refine app_ok h (by simp) (fun y _ => okV_plain rfl y) fun S w h => ?_
        refine mnil_ok ?_
        refine sto_fld h fun w h => ?_
        refine mdraw_ok h fun w h => ?_
        refine mnil_ok ?_
        refine ld_fld h ?_
        refine mnil_ok ?_
        refine ld_fld h ?_
        have hS := h.len (s := S)
        simp only [List.nil_append, List.length_cons, List.length_nil] at hS
        dsimp only [List.nil_append] at h ⊢
        rw [w64_of (by omega) (by omega)]
        refine ixa_ok (s := S) h (by omega) (by omega) fun x ex => ?_
        have e0 : (((S.len : Int) - 1).toNat) = 0 := by omega
        rw [e0] at ex
        unfold zf3g_4 zf3g_6 zf3g_7
        have hE := h.len (s := E)
        have hT := h.len (s := T)
        simp only [List.length_cons, List.length_nil] at hE hT
        have h : SH o (slO S zt15 zkg [((0, 0, 0, ()), ⟨none, 0, 0⟩, ())] :: slO T zt4 .s [flay (0, n, text, ())] :: slO E zty zk2 [(0, n, text, ())] ::
          vr lg zt13 zkb (some d, name, S, 0, 0, 0, 0, ()) :: diskA d [(segFile name 0, [], flay (0, n, text, ()))] (room - blk (flay (0, n, text, ())).length) (-1) false :: Γ) w := h.to
        refine loop_ok (fun (i : Nat) t w => t = ((i : Int), ()) ∧ ((i = 0 ∧ SH o (slO S zt15 zkg [((0, 0, 0, ()), ⟨none, 0, 0⟩, ())] :: slO T zt4 .s [flay (0, n, text, ())] :: slO E zty zk2 [(0, n, text, ())] ::
          vr lg zt13 zkb (some d, name, S, 0, 0, 0, 0, ()) :: diskA d [(segFile name 0, [], flay (0, n, text, ()))] (room - blk (flay (0, n, text, ())).length) (-1) false :: Γ) w) ∨
          (i = 1 ∧ ∃ M, SH o (slO S zt15 zkg [((0, (flay (0, n, text, ())).length, 1, ()), M, ())] :: slO M zt1g zk0 [(0, 0, 0, ())] :: slO E zty zk2 [(0, n, text, ())] ::
          vr lg zt13 zkb (some d, name, S, 0, 0, 0, 0, ()) :: diskA d [(segFile name 0, [], flay (0, n, text, ()))] (room - blk (flay (0, n, text, ())).length) (-1) false :: Γ) w))) (fun i => 2 - i) 0 ⟨rfl, .inl ⟨rfl, h⟩⟩ ?_
        clear h
        rintro i _ w cont ⟨rfl, hinv⟩ hcont
        rcases hinv with ⟨rfl, h⟩ | ⟨rfl, M, h⟩
        · unfold zf3g_8
          dsimp only
          refine mif_ok (fun g => ?_) (fun g => ?_)
          · refine ixa_ok (s := E) h (by omega) (by omega) fun e ea => ?_
            refine ld_el ea h rfl ?_
            refine alo_ok h fun a w h => ?_
            refine sto_var h fun w h => ?_
            refine mdraw_ok h fun w h => ?_
            refine ld_var h ?_
            refine ixa_ok (s := T) h (by omega) (by omega) fun e2 ea2 => ?_
            refine ld_el ea2 h rfl ?_
            have h : SH o (slO S zt15 zkg [((0, 0, 0, ()), ⟨none, 0, 0⟩, ())] :: slO E zty zk2 [(0, n, text, ())] ::
              vr lg zt13 zkb (some d, name, S, 0, 0, 0, 0, ()) :: diskA d [(segFile name 0, [], flay (0, n, text, ()))] (room - blk (flay (0, n, text, ())).length) (-1) false :: Γ) w := h.to
            refine took_new (e := (0, n, text, ())) ex rfl ⟨by omega, by omega⟩ ⟨by omega, by omega⟩ ⟨by omega, by omega⟩ h fun M w h => ?_
            refine hcont 1 _ w (by omega) ⟨rfl, .inr ⟨rfl, M, ?_⟩⟩
            have e1 : (0 : Int) + ((flay (0, n, text, ())).length : Int) = ((flay (0, n, text, ())).length : Int) := Int.zero_add _
            rw [e1] at h
            exact h
          · simp at g; omega
        · unfold zf3g_8
          dsimp only
          refine mif_ok (fun g => ?_) (fun g => ?_)
          · simp at g; omega
          unfold zf3g_5
          refine mnil_ok ?_
          refine sto_fld h fun w h => ?_
          refine ixa_ok (s := E) h (by omega) (by omega) fun e ea => ?_
          refine ld_elf0 ea h rfl ?_
          exact hR S M w h.to
      · cases g
    · cases g
theorem LogSync_ok {R : Int → World → Prop} {d lg : Addr} {S M : Sl} {room : Int} {name su lo : Bs} {a1 a2 n s : Int} (h8 : name.length ≤ 8) (hin : ∀ c ∈ name, c ∈ letters36) (hl : su.length + lo.length ≤ 1099511627776)
    (h : SH o (vr lg zt13 zkb (some d, name, S, 0, n, s, 0, ()) :: slO S zt15 zkg [((0, a1, a2, ()), M, ())] :: diskA d [(segFile name 0, su, lo)] room (-1) false :: Γ) w)
    (hR : ∀ w', SH o (vr lg zt13 zkb (some d, name, S, 0, n, n, 0, ()) :: slO S zt15 zkg [((0, a1, a2, ()), M, ())] :: diskA d [(segFile name 0, su ++ lo, [])] room (-1) false :: Γ) w' → R 0 w') :
    mcall P n_zf3h [(.pointer (some lg))] I R w := by
  apply zf3h_call
  have hS := (h.drop).len (s := S)
  simp only [List.length_cons, List.length_nil] at hS
  refine meq_ptr_nil ?_
  refine mif_ok (fun g => ?_) (fun g => ?_)
  · cases g
  refine mnil_ok ?_
  refine ld_fld h ?_
  refine mif_ok (fun g => ?_) (fun g => ?_)
  · cases g
  refine mnil_ok ?_
  refine ld_fld h ?_
  refine mif_ok (fun g => ?_) (fun g => ?_)
  · simp at g; omega
  refine mdraw_ok h fun w h => ?_
  refine mnil_ok ?_
  refine ld_fld0 h ?_
  refine mnil_ok ?_
  refine ld_fld h ?_
  refine mnil_ok ?_
  refine ld_fld h ?_
  dsimp only
  rw [w64_of (by omega) (by omega)]
  refine ixa_ok (s := S) h (by omega) (by omega) fun x ex => ?_
  have e0 : (((S.len : Int) - 1).toNat) = 0 := by omega
  rw [e0] at ex
  refine ld_elf0 ex h rfl ?_
  dsimp only
  refine file_ok (lg := lg) ⟨by omega, by omega⟩ (by show name.length ≤ 1000; omega) h fun w h => ?_
  refine mst_fld0 (a := lg) h ?_
  have h : SH o (diskA d [(segFile name 0, su, lo)] room (-1) false :: vr lg zt13 zkb (some d, name, S, 0, n, s, 0, ()) :: slO S zt15 zkg [((0, a1, a2, ()), M, ())] :: Γ) w := h.to
  refine Sync_ok (i := 0) (segFile_good h8 hin) rfl hl ⟨by omega, by omega⟩ h (fun hz => by omega) (fun _ w h => ?_)
  rw [show fuse1 (-1) = -1 by decide] at h
  refine mnil_ok ?_
  refine sto_fld h fun w h => ?_
  refine mnil_ok ?_
  refine ld_fld h ?_
  refine mif_ok (fun g => ?_) (fun g => ?_)
  · refine mnil_ok ?_
    refine ld_fld h ?_
    refine mnil_ok ?_
    refine sto_fld h fun w h => ?_
    unfold zf3h_1
    refine mnil_ok ?_
    refine ld_fld h ?_
    refine hR w ?_
    have h : SH o (vr lg zt13 zkb (some d, name, S, 0, n, n, 0, ()) :: diskA d [(segFile name 0, su ++ lo, [])] room (-1) false :: slO S zt15 zkg [((0, a1, a2, ()), M, ())] :: Γ) w := h
    exact h.to
  · cases g
end
end Go.Proofs.YtpjhflboedicpaaGreatDoor
namespace Go.Proofs.YtpjhflboedicpaaGreatDoor
open Go Go.W
set_option maxRecDepth 100000
section
variable {o : Fix} {Γ Δ : List Assn} {w : World}
theorem from_one {R : Int → World → Prop} {x : zTg} (h : SH o Γ w) [hm : RdS x.2.1 zk0 [(0, 0, 0, ())] Γ] (hR : ∀ w', SH o Γ w' → R 0 w') : mcall P n_zf39 [(KV zkg x), (.int .i64 0)] I R w := by
  obtain ⟨x1, m, _⟩ := x
  dsimp only at hm
  apply zf39_call
  have hlen := h.len (s := m)
  simp only [List.length_cons, List.length_nil] at hlen
  refine bx_ok h fun a w h => ?_
  unfold zf39_1 zf39_3
  refine ld_fld h ?_
  unfold zf39_4
  dsimp only
  refine loop_ok (fun (i : Nat) t w => t = (0, (i : Int), ()) ∧ i ≤ 1 ∧ SH o Γ w) (fun i => 1 - i) 0 ⟨rfl, by omega, h.drop⟩ ?_
  rintro i _ w cont ⟨rfl, hi, h⟩ hc
  unfold zf39_5
  dsimp only
  refine mif_ok (fun g => ?_) (fun g => ?_)
  · obtain rfl : i = 0 := by simp at g; omega
    refine ixa_ok (s := m) h (by omega) (by omega) fun e ea => ?_
    refine ld_el ea h rfl ?_
    refine alo_ok h fun b w h => ?_
    refine sto_var h fun w h => ?_
    refine ld_fld0 h ?_
    refine mif_ok (fun g => ?_) (fun g => ?_)
    · refine ld_fld h ?_
      unfold zf39_6
      exact hc 1 _ w (by omega) ⟨rfl, by omega, h.drop⟩
    · cases g
  · exact hR w h
theorem Fetch_one {R : (Sl × Int × Unit) → World → Prop} {d lg : Addr} {S M : Sl} {room : Int} {name row : Bs} {a1 a2 n s k : Int} {e : Ent} (h8 : name.length ≤ 8) (hin : ∀ c ∈ name, c ∈ letters36) (hn : 0 ≤ n)
    (hrow : rowM row = [(k, e)]) (he : 0 < e.1 + e.2.1 ∧ e.1 + e.2.1 ≤ 1099511627776) (hs : row.length ≤ 274877906000)
    (h : SH o (vr lg zt13 zkb (some d, name, S, 0, n, s, 0, ()) :: slO S zt15 zkg [((0, a1, a2, ()), M, ())] :: slO M zt1g zk0 [(0, 0, 0, ())] :: diskA d [(segFile name 0, row, [])] room (-1) false :: Γ) w)
    (hR : ∀ out w', SH o (slO out zty zk2 [e] :: vr lg zt13 zkb (some d, name, S, 0, n, s, 0, ()) :: slO S zt15 zkg [((0, a1, a2, ()), M, ())] :: slO M zt1g zk0 [(0, 0, 0, ())] :: diskA d [(segFile name 0, row, [])] room (-1) false :: Γ) w' → R (out, 0, ()) w') :
    mcall P n_zf1s [(.pointer (some lg)), (.int .i64 0), (.int .i64 9)] (.tup [.sl, I]) R w := by
  have hSl := (h.drop).len (s := S)
  simp only [List.length_cons, List.length_nil] at hSl
  refine mcall_marks zf1s_get (c := zf1s_B) (n := 125) (by kernel_rfl) (by kernel_rfl) (by kernel_rfl) (by kernel_rfl) ?_
  -- ahead of the loop
  obtain ⟨F, hF⟩ : ∃ F : KTs (kds [(0, .p), (4, .ad), (5, .ad), (6, .ad), (7, .ad), (8, .ad)]) → World → Prop, F = fun x w => x.1 = some lg ∧
    SH o (vr x.2.2.2.2.2.1 ztx .sl ⟨none, 0, 0⟩ :: vr x.2.2.2.2.1 ztb I 0 :: vr x.2.2.2.1 ztx .sl ⟨none, 0, 0⟩ :: vr x.2.2.1 zt1 I 9 :: vr x.2.1 zt1 I 0 :: vr lg zt13 zkb (some d, name, S, 0, n, s, 0, ()) :: slO S zt15 zkg [((0, a1, a2, ()), M, ())] :: slO M zt1g zk0 [(0, 0, 0, ())] :: diskA d [(segFile name 0, row, [])] room (-1) false :: Γ) w := ⟨_, rfl⟩
  refine pm_cut (l := [(0, .p), (4, .ad), (5, .ad), (6, .ad), (7, .ad), (8, .ad)]) (F := F) (c' := Code.at zf1s_B [.snd, .snd, .snd])
    (T := (bx P zt1 I 0 fun a1 =>
 bx P zt1 I 9 fun a2 =>
 alo P ztx fun a3 =>
 alo P ztb fun a4 =>
 meq P .eql zts (.pointer (some lg)) (.pointer none) fun (x5 : Bool) =>
 mif x5
 (sto P ztx a3 .sl ⟨none, 0, 0⟩ <|
 sto P ztb a4 I 1 <|
 ld P ztx a3 .sl fun (r1 : Sl) => ld P ztb a4 I fun (r2 : Int) => R (r1, r2, ()))
 (ld P zt1 a2 I fun (x6 : Int) =>
 mif (decide (x6 < 1))
 (sto P ztx a3 .sl ⟨none, 0, 0⟩ <|
 sto P ztb a4 I 1 <|
 ld P ztx a3 .sl fun (r1 : Sl) => ld P ztb a4 I fun (r2 : Int) => R (r1, r2, ()))
 (ld P zt1 a2 I fun (x7 : Int) =>
 mif (decide (x7 > 32))
 (sto P ztx a3 .sl ⟨none, 0, 0⟩ <|
 sto P ztb a4 I 1 <|
 ld P ztx a3 .sl fun (r1 : Sl) => ld P ztb a4 I fun (r2 : Int) => R (r1, r2, ()))
 (mnil (some lg) fun a8 =>
 ld P ztb (ad a8 6) I fun (x9 : Int) =>
 mif (x9 != 0)
 (mdraw <|
 mnil (some lg) fun a10 =>
 ld P ztb (ad a10 6) I fun (x11 : Int) =>
 sto P ztx a3 .sl ⟨none, 0, 0⟩ <|
 mst P (Instr.loadAt ztb (.pointer (some (ad a10 6)))) (.int .i64 x11) <|
 sto P ztb a4 I x11 <|
 ld P ztx a3 .sl fun (r1 : Sl) => ld P ztb a4 I fun (r2 : Int) => R (r1, r2, ()))
 (mdraw <|
 ld P zt1 a1 I fun (x12 : Int) =>
 mnil (some lg) fun a13 =>
 ld P zt1 (ad a13 3) I fun (x14 : Int) =>
 mif (decide (x12 < x14))
 (sto P ztx a3 .sl ⟨none, 0, 0⟩ <|
 sto P ztb a4 I 6 <|
 ld P ztx a3 .sl fun (r1 : Sl) => ld P ztb a4 I fun (r2 : Int) => R (r1, r2, ()))
 (ld P zt1 a1 I fun (x15 : Int) =>
 mnil (some lg) fun a16 =>
 ld P zt1 (ad a16 4) I fun (x17 : Int) =>
 mif (decide (x15 > x17))
 (sto P ztx a3 .sl ⟨none, 0, 0⟩ <|
 sto P ztb a4 I 6 <|
 ld P ztx a3 .sl fun (r1 : Sl) => ld P ztb a4 I fun (r2 : Int) => R (r1, r2, ()))
 (alo P ztx fun a18 => F (some lg, a1, a2, a3, a4, a18, ())))))))) w) hmix 3 (by simp [argE]) (by kernel_rfl) (by kernel_rfl) ?_ ?_
  rotate_left
  · refine bx_ok h fun b1 w h => ?_
    refine bx_ok h fun b2 w h => ?_
    refine alo_ok h fun b3 w h => ?_
    refine alo_ok h fun b4 w h => ?_
    refine meq_ptr_nil ?_
    refine mif_ok (fun g => ?_) (fun g => ?_)
    · cases g
    refine ld_fld0 (a := b2) h ?_
    refine mif_ok (fun g => ?_) (fun g => ?_)
    · cases g
    refine ld_fld0 (a := b2) h ?_
    refine mif_ok (fun g => ?_) (fun g => ?_)
    · cases g
    refine mnil_ok ?_
    refine ld_fld h ?_
    refine mif_ok (fun g => ?_) (fun g => ?_)
    · cases g
    refine mdraw_ok h fun w h => ?_
    refine ld_fld0 (a := b1) h ?_
    refine mnil_ok ?_
    refine ld_fld h ?_
    refine mif_ok (fun g => ?_) (fun g => ?_)
    · cases g
    refine ld_fld0 (a := b1) h ?_
    refine mnil_ok ?_
    refine ld_fld h ?_
    refine mif_ok (fun g => ?_) (fun g => ?_)
    · simp at g; omega
    refine alo_ok h fun b8 w h => ?_
    rw [hF]
    exact ⟨rfl, h⟩
  clear h
  rintro ⟨q, (b4 : Addr), (b5 : Addr), (b6 : Addr), (b7 : Addr), (b8 : Addr), _⟩ w h
  rw [hF] at h
  obtain ⟨rfl, h⟩ := h
  clear hF F
  dsimp only at h
  -- what stands behind the loop
  obtain ⟨Kf, hKf⟩ : ∃ Kf : KTs (kds [(6, .ad), (7, .ad), (8, .ad)]) → List Nat → World → Prop, Kf = fun x ds w => x = (b6, b7, b8, ()) ∧ ∃ dd E, ds = [dd] ∧
    SH o (dfA dd :: vr b8 ztx .sl E :: slO E zty zk2 [e] :: vr b7 ztb I 0 :: vr b6 ztx .sl ⟨none, 0, 0⟩ :: vr b5 zt1 I 9 :: vr b4 zt1 I 0 :: vr lg zt13 zkb (some d, name, S, 0, n, s, 0, ()) :: slO S zt15 zkg [((0, a1, a2, ()), M, ())] :: slO M zt1g zk0 [(0, 0, 0, ())] :: diskA d [(segFile name 0, row, [])] room (-1) false :: Γ) w := ⟨_, rfl⟩
  refine pm_seq (a := Code.at zf1s_B [.snd, .snd, .snd, .fst]) (b := Code.at zf1s_B [.snd, .snd, .snd, .snd]) (by kernel_rfl)
    (K := fun env ds w => getE env [(6, .ad), (7, .ad), (8, .ad)] (fun x w => Kf x ds w) w) ?_ ?_
  rotate_left
  · intro env ds w hl h0
    obtain ⟨x, h, hle⟩ := getE_elim hl h0
    clear h0
    refine WPM.le ?_ hle
    rw [hKf] at h
    obtain ⟨rfl, dd, E, rfl, h⟩ := h
    refine pm_code hmix (T := (ld P ztx b8 .sl fun (x19 : Sl) => sto P ztx b6 .sl x19 <| sto P ztb b7 I 0 <| mtake P [dd] (ld P ztx b6 .sl fun (r1 : Sl) => ld P ztb b7 I fun (r2 : Int) => R (r1, r2, ()))) w) (by kernel_rfl) ?_
    refine ld_fld0 (a := b8) h ?_
    refine sto_fld0 (a := b6) h fun w h => ?_
    refine sto_fld0 (a := b7) h fun w h => ?_
    have h : SH o (dfA dd :: vr b7 ztb I 0 :: vr b6 ztx .sl E :: vr b8 ztx .sl E :: slO E zty zk2 [e] :: vr b5 zt1 I 9 :: vr b4 zt1 I 0 :: vr lg zt13 zkb (some d, name, S, 0, n, s, 0, ()) :: slO S zt15 zkg [((0, a1, a2, ()), M, ())] :: slO M zt1g zk0 [(0, 0, 0, ())] :: diskA d [(segFile name 0, row, [])] room (-1) false :: Γ) w := h.to
    refine mtake_ok (Γ := vr b7 ztb I 0 :: vr b6 ztx .sl E :: vr b8 ztx .sl E :: slO E zty zk2 [e] :: vr b5 zt1 I 9 :: vr b4 zt1 I 0 :: vr lg zt13 zkb (some d, name, S, 0, n, s, 0, ()) :: slO S zt15 zkg [((0, a1, a2, ()), M, ())] :: slO M zt1g zk0 [(0, 0, 0, ())] :: diskA d [(segFile name 0, row, [])] room (-1) false :: Γ) h fun w h => ?_
    refine ld_fld0 (a := b6) h ?_
    refine ld_fld0 (a := b7) h ?_
    refine hR E w ?_
    exact h.to
  -- the loop
  obtain ⟨F, hF⟩ : ∃ F : KTs (kds [(0, .p), (4, .ad), (5, .ad), (6, .ad), (7, .ad), (8, .ad), (54, .sl), (55, I), (56, I)]) → World → Prop, F = fun x w => x = (some lg, b4, b5, b6, b7, b8, S, (S.len : Int), 0, ()) ∧
    SH o (vr b8 ztx .sl ⟨none, 0, 0⟩ :: vr b7 ztb I 0 :: vr b6 ztx .sl ⟨none, 0, 0⟩ :: vr b5 zt1 I 9 :: vr b4 zt1 I 0 :: vr lg zt13 zkb (some d, name, S, 0, n, s, 0, ()) :: slO S zt15 zkg [((0, a1, a2, ()), M, ())] :: slO M zt1g zk0 [(0, 0, 0, ())] :: diskA d [(segFile name 0, row, [])] room (-1) false :: Γ) w := ⟨_, rfl⟩
  refine pm_cut (l := [(0, .p), (4, .ad), (5, .ad), (6, .ad), (7, .ad), (8, .ad), (54, .sl), (55, I), (56, I)]) (F := F) (c' := Code.at zf1s_B [.snd, .snd, .snd, .fst, .snd])
    (T := (mnil (some lg) fun a1 => ld P zt12 (ad a1 2) .sl fun (x1 : Sl) => F (some lg, b4, b5, b6, b7, b8, x1, (x1.len : Int), 0, ())) w) hmix 1 (mkE_len ..) (by kernel_rfl) (by kernel_rfl) ?_ ?_
  rotate_left
  · refine mnil_ok ?_
    refine ld_fld h ?_
    rw [hF]
    exact ⟨rfl, h.to⟩
  clear h
  intro x w h
  rw [hF] at h
  obtain ⟨rfl, h⟩ := h
  clear hF F
  have hS1 : (S.len : Int) = 1 := by omega
  rw [hS1]
  refine pm_block (id := 1) (c := Code.at zf1s_B [.snd, .snd, .snd, .fst, .snd, .blk]) (by kernel_rfl) ?_
  have hloop : Code.at zf1s_B [.snd, .snd, .snd, .fst, .snd, .blk] = .loop (Code.at zf1s_B [.snd, .snd, .snd, .fst, .snd, .blk, .blk]) := by kernel_rfl
  rw [hloop]
  obtain ⟨Jf, hJf⟩ : ∃ Jf : Nat → KTs (kds [(0, .p), (4, .ad), (5, .ad), (6, .ad), (7, .ad), (8, .ad), (54, .sl), (55, I), (56, I)]) → List Nat → World → Prop, Jf = fun i x ds w =>
    (i = 0 ∧ x = (some lg, b4, b5, b6, b7, b8, S, 1, 0, ()) ∧ ds = [] ∧ SH o (vr b8 ztx .sl ⟨none, 0, 0⟩ :: vr b7 ztb I 0 :: vr b6 ztx .sl ⟨none, 0, 0⟩ :: vr b5 zt1 I 9 :: vr b4 zt1 I 0 :: vr lg zt13 zkb (some d, name, S, 0, n, s, 0, ()) :: slO S zt15 zkg [((0, a1, a2, ()), M, ())] :: slO M zt1g zk0 [(0, 0, 0, ())] :: diskA d [(segFile name 0, row, [])] room (-1) false :: Γ) w) ∨
    (i = 1 ∧ x = (some lg, b4, b5, b6, b7, b8, S, 1, 1, ()) ∧ ∃ dd E, ds = [dd] ∧ SH o (dfA dd :: vr b8 ztx .sl E :: slO E zty zk2 [e] :: vr b7 ztb I 0 :: vr b6 ztx .sl ⟨none, 0, 0⟩ :: vr b5 zt1 I 9 :: vr b4 zt1 I 0 :: vr lg zt13 zkb (some d, name, S, 0, n, s, 0, ()) :: slO S zt15 zkg [((0, a1, a2, ()), M, ())] :: slO M zt1g zk0 [(0, 0, 0, ())] :: diskA d [(segFile name 0, row, [])] room (-1) false :: Γ) w) := ⟨_, rfl⟩
  refine WPM.loop (fun i env ds w => getE env [(0, .p), (4, .ad), (5, .ad), (6, .ad), (7, .ad), (8, .ad), (54, .sl), (55, I), (56, I)] (fun x w => Jf i x ds w) w) (fun i => 2 - i) (s0 := 0) ?_ ?_
  · refine Eq.mp (α := Jf 0 (some lg, b4, b5, b6, b7, b8, S, 1, 0, ()) [] w) (by kernel_rfl) ?_
    rw [hJf]
    exact .inl ⟨rfl, rfl, rfl, h⟩
  clear h
  intro i env ds w hl h0
  obtain ⟨x, hJ, hle⟩ := getE_elim hl h0
  clear h0
  refine WPM.le ?_ hle
  rw [hJf] at hJ
  rcases hJ with ⟨rfl, rfl, rfl, h⟩ | ⟨rfl, rfl, d2, E, rfl, h⟩
  rotate_left
  · -- behind the one segment
    obtain ⟨F, hF⟩ : ∃ F : KTs (kds [(0, .p), (4, .ad), (5, .ad), (6, .ad), (7, .ad), (8, .ad), (54, .sl), (55, I), (56, I)]) → World → Prop, F = fun x w => False := ⟨_, rfl⟩
    refine pm_cut (l := [(0, .p), (4, .ad), (5, .ad), (6, .ad), (7, .ad), (8, .ad), (54, .sl), (55, I), (56, I)]) (F := F) (c' := Code.at zf1s_B [.snd, .snd, .snd, .fst, .snd, .blk, .blk, .snd, .snd])
      (T := mif (decide ((1 : Int) < 1)) (F (some lg, b4, b5, b6, b7, b8, S, 1, 1, ())) (Kf (b6, b7, b8, ()) [d2]) w) hmix 2 (mkE_len ..) (by kernel_rfl) (by kernel_rfl) ?_ ?_
    · intro x w h; rw [hF] at h; exact h.elim
    · refine mif_ok (fun g => ?_) (fun g => ?_)
      · cases g
      rw [hKf]
      exact ⟨rfl, d2, E, rfl, h⟩
  -- the one segment
  obtain ⟨F, hF⟩ : ∃ F : KTs (kds [(0, .p), (4, .ad), (5, .ad), (6, .ad), (7, .ad), (8, .ad), (54, .sl), (55, I), (56, I)]) → World → Prop, F = fun x w => x = (some lg, b4, b5, b6, b7, b8, S, 1, 0, ()) ∧ SH o (vr b8 ztx .sl ⟨none, 0, 0⟩ :: vr b7 ztb I 0 :: vr b6 ztx .sl ⟨none, 0, 0⟩ :: vr b5 zt1 I 9 :: vr b4 zt1 I 0 :: vr lg zt13 zkb (some d, name, S, 0, n, s, 0, ()) :: slO S zt15 zkg [((0, a1, a2, ()), M, ())] :: slO M zt1g zk0 [(0, 0, 0, ())] :: diskA d [(segFile name 0, row, [])] room (-1) false :: Γ) w := ⟨_, rfl⟩
  refine pm_cut (l := [(0, .p), (4, .ad), (5, .ad), (6, .ad), (7, .ad), (8, .ad), (54, .sl), (55, I), (56, I)]) (F := F) (c' := Code.at zf1s_B [.snd, .snd, .snd, .fst, .snd, .blk, .blk, .snd, .snd])
    (T := mif (decide ((0 : Int) < 1)) (F (some lg, b4, b5, b6, b7, b8, S, 1, 0, ())) (Kf (b6, b7, b8, ()) []) w) hmix 2 (mkE_len ..) (by kernel_rfl) (by kernel_rfl) ?_ ?_
  rotate_left
  · refine mif_ok (fun g => ?_) (fun g => ?_)
    · rw [hF]; exact ⟨rfl, h⟩
    · cases g
  clear h
  intro x w h
  rw [hF] at h
  obtain ⟨rfl, h⟩ := h
  clear hF F
  obtain ⟨K2, hK2⟩ : ∃ K2 : KTs (kds [(0, .p), (4, .ad), (5, .ad), (6, .ad), (7, .ad), (8, .ad), (54, .sl), (55, I), (56, I)]) → List Nat → World → Prop, K2 = fun x ds w => x = (some lg, b4, b5, b6, b7, b8, S, 1, 0, ()) ∧ ∃ dd E, ds = [dd] ∧
    SH o (dfA dd :: vr b8 ztx .sl E :: slO E zty zk2 [e] :: vr b7 ztb I 0 :: vr b6 ztx .sl ⟨none, 0, 0⟩ :: vr b5 zt1 I 9 :: vr b4 zt1 I 0 :: vr lg zt13 zkb (some d, name, S, 0, n, s, 0, ()) :: slO S zt15 zkg [((0, a1, a2, ()), M, ())] :: slO M zt1g zk0 [(0, 0, 0, ())] :: diskA d [(segFile name 0, row, [])] room (-1) false :: Γ) w := ⟨_, rfl⟩
  refine pm_seq (a := Code.at zf1s_B [.snd, .snd, .snd, .fst, .snd, .blk, .blk, .snd, .snd, .fst]) (b := Code.at zf1s_B [.snd, .snd, .snd, .fst, .snd, .blk, .blk, .snd, .snd, .snd]) (by kernel_rfl)
    (K := fun env ds w => getE env [(0, .p), (4, .ad), (5, .ad), (6, .ad), (7, .ad), (8, .ad), (54, .sl), (55, I), (56, I)] (fun x w => K2 x ds w) w) ?_ ?_
  rotate_left
  · intro env ds w hl h0
    obtain ⟨x, h, hle⟩ := getE_elim hl h0
    clear h0
    refine WPM.le ?_ hle
    rw [hK2] at h
    obtain ⟨rfl, dd, E, rfl, h⟩ := h
    refine pm_code hmix (T := ∃ s', 2 - s' < 2 - 0 ∧ Jf s' (some lg, b4, b5, b6, b7, b8, S, 1, w64 (0 + 1), ()) [dd] w) (by kernel_rfl) ?_
    refine ⟨1, by omega, ?_⟩
    rw [hJf]
    exact .inr ⟨rfl, rfl, dd, E, rfl, h⟩
  -- its row
  refine pm_block (id := 2) (c := Code.at zf1s_B [.snd, .snd, .snd, .fst, .snd, .blk, .blk, .snd, .snd, .fst, .blk]) (by kernel_rfl) ?_
  obtain ⟨F, hF⟩ : ∃ F : KTs (kds [(0, .p), (4, .ad), (5, .ad), (6, .ad), (7, .ad), (8, .ad), (54, .sl), (55, I), (56, I), (104, .v)]) → World → Prop, F = fun x w => ∃ v, x = (some lg, b4, b5, b6, b7, b8, S, 1, 0, .func (.func n_zf4a) #[] #[.pointer (some v)], ()) ∧
    SH o (vr v zt4 .s row :: vr b8 ztx .sl ⟨none, 0, 0⟩ :: vr b7 ztb I 0 :: vr b6 ztx .sl ⟨none, 0, 0⟩ :: vr b5 zt1 I 9 :: vr b4 zt1 I 0 :: vr lg zt13 zkb (some d, name, S, 0, n, s, 0, ()) :: slO S zt15 zkg [((0, a1, a2, ()), M, ())] :: slO M zt1g zk0 [(0, 0, 0, ())] :: diskA d [(segFile name 0, row, [])] room (-1) false :: Γ) w := ⟨_, rfl⟩
  refine pm_cut (l := [(0, .p), (4, .ad), (5, .ad), (6, .ad), (7, .ad), (8, .ad), (54, .sl), (55, I), (56, I), (104, .v)]) (F := F) (c' := Code.at zf1s_B [.snd, .snd, .snd, .fst, .snd, .blk, .blk, .snd, .snd, .fst, .blk, .snd, .snd, .snd, .snd, .snd])
    (T := (ixa P zt12 (Sl.v S) 0 fun (x1 : Addr) =>
 ld P zt15 x1 zkg fun (x2 : zTg) =>
 alo P zt15 fun a3 =>
 sto P zt15 a3 zkg x2 <|
 mdraw <|
 mnil (some lg) fun a4 =>
 ld P zt12 (ad a4 2) .sl fun (x5 : Sl) =>
 mif (decide ((w64 (0 + 1)) < (x5.len : Int)))
 (mnil (some lg) fun a6 =>
 ld P zt12 (ad a6 2) .sl fun (x7 : Sl) =>
 ixa P zt12 (Sl.v x7) (w64 (0 + 1)) fun (x8 : Addr) =>
 ld P zt1 x8 I fun (x9 : Int) =>
 ld P zt1 b4 I fun (x10 : Int) =>
 mif (decide (x9 ≤ x10))
 (K2 (some lg, b4, b5, b6, b7, b8, S, 1, 0, ()) [])
 (mdraw <|
 mnil (some lg) fun a21 =>
 ld P zte a21 .p fun (x22 : Option Addr) =>
 ld P zt1 a3 I fun (x23 : Int) =>
 mcall P n_zf37 [(.pointer (some lg)), (.int .i64 x23)] .s fun (x24 : Bs) =>
 mst P (Instr.loadAt zte (.pointer (some a21))) (.pointer x22) <|
 mcall P n_zf1l [(.pointer x22), (.string ⟨x24.toArray⟩)] (.tup [.s, I]) fun (x25 : Bs × Int × Unit) =>
 mif (x25.2.1 != 0)
 (sto P ztx b6 .sl ⟨none, 0, 0⟩ <|
 sto P ztb b7 I x25.2.1 <|
 ld P ztx b6 .sl fun (r1 : Sl) => ld P ztb b7 I fun (r2 : Int) => R (r1, r2, ()))
 (ld P zt15 a3 zkg fun (x26 : zTg) =>
 ld P zt1 b4 I fun (x27 : Int) =>
 mcall P n_zf39 [(KV zkg x26), (.int .i64 x27)] I fun (x28 : Int) =>
 sls P zt4 x25.1 (some x28) none fun (x29 : Bs) =>
 mcall P n_zf38 [(.string ⟨x29.toArray⟩)] .v fun (x30 : Value) =>
 F (some lg, b4, b5, b6, b7, b8, S, 1, 0, x30, ()))))
 (mdraw <|
 mnil (some lg) fun a21 =>
 ld P zte a21 .p fun (x22 : Option Addr) =>
 ld P zt1 a3 I fun (x23 : Int) =>
 mcall P n_zf37 [(.pointer (some lg)), (.int .i64 x23)] .s fun (x24 : Bs) =>
 mst P (Instr.loadAt zte (.pointer (some a21))) (.pointer x22) <|
 mcall P n_zf1l [(.pointer x22), (.string ⟨x24.toArray⟩)] (.tup [.s, I]) fun (x25 : Bs × Int × Unit) =>
 mif (x25.2.1 != 0)
 (sto P ztx b6 .sl ⟨none, 0, 0⟩ <|
 sto P ztb b7 I x25.2.1 <|
 ld P ztx b6 .sl fun (r1 : Sl) => ld P ztb b7 I fun (r2 : Int) => R (r1, r2, ()))
 (ld P zt15 a3 zkg fun (x26 : zTg) =>
 ld P zt1 b4 I fun (x27 : Int) =>
 mcall P n_zf39 [(KV zkg x26), (.int .i64 x27)] I fun (x28 : Int) =>
 sls P zt4 x25.1 (some x28) none fun (x29 : Bs) =>
 mcall P n_zf38 [(.string ⟨x29.toArray⟩)] .v fun (x30 : Value) =>
 F (some lg, b4, b5, b6, b7, b8, S, 1, 0, x30, ())))) w) hmix 5 (mkE_len ..) (by kernel_rfl) (by kernel_rfl) ?_ ?_
  rotate_left
  · refine ixa_ok (s := S) h (by omega) (by omega) fun x ex => ?_
    refine ld_el ex h rfl ?_
    refine alo_ok h fun b10 w h => ?_
    refine sto_var h fun w h => ?_
    refine mdraw_ok h fun w h => ?_
    refine mnil_ok ?_
    refine ld_fld h ?_
    refine mif_ok (fun g => ?_) (fun g => ?_)
    · rw [w64_of (by omega) (by omega)] at g; simp at g; omega
    refine mdraw_ok h fun w h => ?_
    refine mnil_ok ?_
    refine ld_fld0 (a := lg) h ?_
    refine ld_fld0 (a := b10) h ?_
    dsimp only
    refine file_ok (lg := lg) ⟨by omega, by omega⟩ (by show name.length ≤ 1000; omega) h fun w h => ?_
    refine mst_fld0 (a := lg) h ?_
    have h : SH o (diskA d [(segFile name 0, row, [])] room (-1) false :: vr b10 zt15 zkg ((0, a1, a2, ()), M, ()) :: vr b8 ztx .sl ⟨none, 0, 0⟩ :: vr b7 ztb I 0 :: vr b6 ztx .sl ⟨none, 0, 0⟩ :: vr b5 zt1 I 9 :: vr b4 zt1 I 0 :: vr lg zt13 zkb (some d, name, S, 0, n, s, 0, ()) :: slO S zt15 zkg [((0, a1, a2, ()), M, ())] :: slO M zt1g zk0 [(0, 0, 0, ())] :: Γ) w := h.to
    refine Read_ok (i := 0) (segFile_good h8 hin) rfl (by simp; omega) h fun w h => ?_
    refine mif_ok (fun g => ?_) (fun g => ?_)
    · cases g
    refine ld_var (a := b10) h ?_
    refine ld_fld0 (a := b4) h ?_
    refine from_one h fun w h => ?_
    refine sls_from (by omega) (by omega) ?_
    apply zf38_call
    refine bx_ok h fun v w h => ?_
    rw [hF]
    refine ⟨v, rfl, ?_⟩
    dsimp only [Int.toNat_zero, List.drop_zero] at h
    rw [List.append_nil, List.drop_zero] at h
    exact h.to
  clear h
  intro x w h
  rw [hF] at h
  obtain ⟨v, rfl, h⟩ := h
  clear hF F
  refine pm_block (id := 3) (c := Code.at zf1s_B [.snd, .snd, .snd, .fst, .snd, .blk, .blk, .snd, .snd, .fst, .blk, .snd, .snd, .snd, .snd, .snd, .blk]) (by kernel_rfl) ?_
  have hcode : Code.at zf1s_B [.snd, .snd, .snd, .fst, .snd, .blk, .blk, .snd, .snd, .fst, .blk, .snd, .snd, .snd, .snd, .snd, .blk] = .rangeFunc (.tmp 104) #[105, 106]
    (Code.at zf1s_B [.snd, .snd, .snd, .fst, .snd, .blk, .blk, .snd, .snd, .fst, .blk, .snd, .snd, .snd, .snd, .snd, .blk, .fst]) (Code.at zf1s_B [.snd, .snd, .snd, .fst, .snd, .blk, .blk, .snd, .snd, .fst, .blk, .snd, .snd, .snd, .snd, .snd, .blk, .blk]) := by kernel_rfl
  rw [hcode]
  refine WPM.range h (gf := n_zf4a) (lb := #[.pointer (some v)]) rfl zf4a_ent ?_
  clear h
  intro l r D w hps has hbo hn2 hRel h
  let A : List (Int × Ent) → Assn := fun pre => exA fun u : Sl => starA [vr b8 ztx .sl u, slO u zty zk2 (pre.map (·.2))]
  refine Each_ok (o := o) (fun pre => rfA l r .ready none :: dfA r.d :: A pre :: vr b7 ztb I 0 :: vr b6 ztx .sl ⟨none, 0, 0⟩ :: vr b5 zt1 I 9 :: vr b4 zt1 I 0 :: vr lg zt13 zkb (some d, name, S, 0, n, s, 0, ()) :: slO S zt15 zkg [((0, a1, a2, ()), M, ())] :: slO M zt1g zk0 [(0, 0, 0, ())] :: diskA d [(segFile name 0, row, [])] room (-1) false :: Γ) (fun pre => [pureA False]) (v := v) (s0 := row) hs ?_ ?_ ?_ ?_
  · have h := h.nilS zty zk2
    have h3 : SH o (vr b8 ztx .sl ⟨none, 0, 0⟩ :: slO ⟨none, 0, 0⟩ zty zk2 [] :: vr v zt4 .s row :: rfA l r .ready none :: dfA r.d :: vr b7 ztb I 0 :: vr b6 ztx .sl ⟨none, 0, 0⟩ :: vr b5 zt1 I 9 :: vr b4 zt1 I 0 :: vr lg zt13 zkb (some d, name, S, 0, n, s, 0, ()) :: slO S zt15 zkg [((0, a1, a2, ()), M, ())] :: slO M zt1g zk0 [(0, 0, 0, ())] :: diskA d [(segFile name 0, row, [])] room (-1) false :: Γ) w := h.to
    have h4 : SH o (A [] :: vr v zt4 .s row :: rfA l r .ready none :: dfA r.d :: vr b7 ztb I 0 :: vr b6 ztx .sl ⟨none, 0, 0⟩ :: vr b5 zt1 I 9 :: vr b4 zt1 I 0 :: vr lg zt13 zkb (some d, name, S, 0, n, s, 0, ()) :: slO S zt15 zkg [((0, a1, a2, ()), M, ())] :: slO M zt1g zk0 [(0, 0, 0, ())] :: diskA d [(segFile name 0, row, [])] room (-1) false :: Γ) w := SH.ex.2 ⟨⟨none, 0, 0⟩, SH.star2.2 h3⟩
    have h5 : SH o (vr v zt4 .s row :: rfA l r .ready none :: dfA r.d :: A [] :: vr b7 ztb I 0 :: vr b6 ztx .sl ⟨none, 0, 0⟩ :: vr b5 zt1 I 9 :: vr b4 zt1 I 0 :: vr lg zt13 zkb (some d, name, S, 0, n, s, 0, ()) :: slO S zt15 zkg [((0, a1, a2, ()), M, ())] :: slO M zt1g zk0 [(0, 0, 0, ())] :: diskA d [(segFile name 0, row, [])] room (-1) false :: Γ) w := h4.to
    exact h5
  · -- the round
    intro pre x rest A0 w K hr2 h hT hFl
    show myield P l [.int .i64 x.1, KV zk2 x.2] .b K w
    rw [hrow] at hr2
    obtain ⟨rfl, rfl⟩ : pre = [] ∧ x = (k, e) := by
      cases pre with
      | nil => simp at hr2; exact ⟨rfl, hr2.1.symm⟩
      | cons y l => simp at hr2
    have h : SH o (rfA l r .ready none :: A0 :: dfA r.d :: A [] :: vr b7 ztb I 0 :: vr b6 ztx .sl ⟨none, 0, 0⟩ :: vr b5 zt1 I 9 :: vr b4 zt1 I 0 :: vr lg zt13 zkb (some d, name, S, 0, n, s, 0, ()) :: slO S zt15 zkg [((0, a1, a2, ()), M, ())] :: slO M zt1g zk0 [(0, 0, 0, ())] :: diskA d [(segFile name 0, row, [])] room (-1) false :: Γ) w := h.to
    obtain ⟨F, hF⟩ : ∃ F : KTs (kds [(4, .ad), (5, .ad), (6, .ad), (7, .ad), (8, .ad), (14, .ad)]) → World → Prop, F = fun y w => ∃ a14, y = (b4, b5, b6, b7, b8, a14, ()) ∧
      SH o (rfA l r .ready none :: vr a14 zty zk2 e :: A0 :: dfA r.d :: A [] :: vr b7 ztb I 0 :: vr b6 ztx .sl ⟨none, 0, 0⟩ :: vr b5 zt1 I 9 :: vr b4 zt1 I 0 :: vr lg zt13 zkb (some d, name, S, 0, n, s, 0, ()) :: slO S zt15 zkg [((0, a1, a2, ()), M, ())] :: slO M zt1g zk0 [(0, 0, 0, ())] :: diskA d [(segFile name 0, row, [])] room (-1) false :: Γ) w := ⟨_, rfl⟩
    refine yield_cut (n := 125) (l2 := [(4, .ad), (5, .ad), (6, .ad), (7, .ad), (8, .ad), (14, .ad)]) (F := F) hmix h (by rw [hps]; rfl) hn2 hRel ?_ ?_
    · rw [has, hps]
      refine Eq.mp (α := (alo P zty fun a3 => sto P zty a3 zk2 e <| F (b4, b5, b6, b7, b8, a3, ())) w) (by kernel_rfl) ?_
      refine alo_ok h fun a3 w h => ?_
      refine sto_var h fun w h => ?_
      rw [hF]
      exact ⟨a3, rfl, h.to⟩
    · intro y w h
      rw [hF] at h
      obtain ⟨a14, rfl, h⟩ := h
      refine ⟨_, h, fun w h => ?_⟩
      rw [hbo]
      refine Eq.mp (α := (ld P zt1 a14 I fun (x32 : Int) =>
 ld P zt1 (ad a14 1) I fun (x33 : Int) =>
 ld P zt1 b4 I fun (x34 : Int) =>
 mif (decide ((w64 (x32 + x33)) > x34))
 (ld P ztx b8 .sl fun (x35 : Sl) =>
 ld P zty a14 zk2 fun (x36 : zT2) =>
 bsl P ztx zk2 [x36] fun x37 =>
 app P #[ztx, ztx] ztx (Sl.v x35) (Sl.v x37) fun (x38 : Sl) =>
 sto P ztx b8 .sl x38 <|
 ld P ztx b8 .sl fun (x42 : Sl) =>
 ld P zt1 b5 I fun (x43 : Int) =>
 mif ((x42.len : Int) == x43)
 (ld P ztx b8 .sl fun (x44 : Sl) =>
 sto P ztx b6 .sl x44 <|
 sto P ztb b7 I 0 <|
 rndQ o l r K .ret [])
 (rndQ o l r K .normal []))
 (ld P ztx b8 .sl fun (x42 : Sl) =>
 ld P zt1 b5 I fun (x43 : Int) =>
 mif ((x42.len : Int) == x43)
 (ld P ztx b8 .sl fun (x44 : Sl) =>
 sto P ztx b6 .sl x44 <|
 sto P ztb b7 I 0 <|
 rndQ o l r K .ret [])
 (rndQ o l r K .normal []))) w) (by kernel_rfl) ?_
      have h := SH.takeI (A []) h
      obtain ⟨u, h⟩ := SH.ex.1 h
      have h := SH.star2.1 h
      refine ld_fld0 (a := a14) h ?_
      refine ld_fld (a := a14) h ?_
      refine ld_fld0 (a := b4) h ?_
      rw [w64_of (by omega) (by omega)]
      refine mif_ok (fun g => ?_) (fun g => ?_)
      · refine ld_fld0 (a := b8) h ?_
        refine ld_var (a := a14) h ?_
        refine bsl_ok h fun u2 w h => ?_
        refine app_ok h (by simp) (fun y _ => okV_plain rfl y) fun u3 w h => ?_
        refine sto_fld0 (a := b8) h fun w h => ?_
        have hu := h.len (s := u3)
        simp only [List.map_nil, List.nil_append, List.length_cons, List.length_nil] at hu
        refine ld_fld0 (a := b8) h ?_
        refine ld_fld0 (a := b5) h ?_
        refine mif_ok (fun g2 => ?_) (fun g2 => ?_)
        · simp at g2; omega
        have h : SH o (vr b8 ztx .sl u3 :: slO u3 zty zk2 [e] :: rfA l r .busy none :: A0 :: dfA r.d :: vr b7 ztb I 0 :: vr b6 ztx .sl ⟨none, 0, 0⟩ :: vr b5 zt1 I 9 :: vr b4 zt1 I 0 :: vr lg zt13 zkb (some d, name, S, 0, n, s, 0, ()) :: slO S zt15 zkg [((0, a1, a2, ()), M, ())] :: slO M zt1g zk0 [(0, 0, 0, ())] :: diskA d [(segFile name 0, row, [])] room (-1) false :: Γ) w := by
          have h : SH o (vr b8 ztx .sl u3 :: slO u3 zty zk2 [e] :: slO u2 zty zk2 [e] :: rfA l r .busy none :: vr a14 zty zk2 e :: A0 :: dfA r.d :: vr b7 ztb I 0 :: vr b6 ztx .sl ⟨none, 0, 0⟩ :: vr b5 zt1 I 9 :: vr b4 zt1 I 0 :: vr lg zt13 zkb (some d, name, S, 0, n, s, 0, ()) :: slO S zt15 zkg [((0, a1, a2, ()), M, ())] :: slO M zt1g zk0 [(0, 0, 0, ())] :: diskA d [(segFile name 0, row, [])] room (-1) false :: Γ) w := h
          exact h.to
        have h : SH o (A ([] ++ [(k, e)]) :: rfA l r .busy none :: A0 :: dfA r.d :: vr b7 ztb I 0 :: vr b6 ztx .sl ⟨none, 0, 0⟩ :: vr b5 zt1 I 9 :: vr b4 zt1 I 0 :: vr lg zt13 zkb (some d, name, S, 0, n, s, 0, ()) :: slO S zt15 zkg [((0, a1, a2, ()), M, ())] :: slO M zt1g zk0 [(0, 0, 0, ())] :: diskA d [(segFile name 0, row, [])] room (-1) false :: Γ) w := SH.ex.2 ⟨u3, SH.star2.2 h⟩
        have h : SH o (rfA l r .busy none :: A0 :: dfA r.d :: A ([] ++ [(k, e)]) :: vr b7 ztb I 0 :: vr b6 ztx .sl ⟨none, 0, 0⟩ :: vr b5 zt1 I 9 :: vr b4 zt1 I 0 :: vr lg zt13 zkb (some d, name, S, 0, n, s, 0, ()) :: slO S zt15 zkg [((0, a1, a2, ()), M, ())] :: slO M zt1g zk0 [(0, 0, 0, ())] :: diskA d [(segFile name 0, row, [])] room (-1) false :: Γ) w := h.to
        refine ⟨_, h, fun w h => hT w ?_⟩
        exact h.to
      · simp at g; omega
  · intro w h
    refine ⟨.ready, none, _, by simp, h, fun w h => ?_⟩
    have h := SH.takeI (A (rowM row)) h
    obtain ⟨u, h⟩ := SH.ex.1 h
    have h := SH.star2.1 h
    rw [hrow] at h
    refine Eq.mp (α := K2 (some lg, b4, b5, b6, b7, b8, S, 1, 0, ()) [r.d] w) (by kernel_rfl) ?_
    rw [hK2]
    refine ⟨rfl, r.d, u, rfl, ?_⟩
    have h : SH o (vr b8 ztx .sl u :: slO u zty zk2 [e] :: dfA r.d :: vr b7 ztb I 0 :: vr b6 ztx .sl ⟨none, 0, 0⟩ :: vr b5 zt1 I 9 :: vr b4 zt1 I 0 :: vr lg zt13 zkb (some d, name, S, 0, n, s, 0, ()) :: slO S zt15 zkg [((0, a1, a2, ()), M, ())] :: slO M zt1g zk0 [(0, 0, 0, ())] :: diskA d [(segFile name 0, row, [])] room (-1) false :: Γ) w := h
    exact h.to
  · intro pre rest w hr h
    exact (SH.pure.1 h).1.elim
end
end Go.Proofs.YtpjhflboedicpaaGreatDoor
namespace Go.Proofs.YtpjhflboedicpaaGreatDoor
open Go Go.W
set_option maxRecDepth 100000
section
variable {o : Fix} {Γ Δ : List Assn} {w : World}
theorem meq_sl_nil {t te : TypeId} {x : Sl} {K : Bool → World → Prop} [ht : TySl P t te] (hK : K x.a.isNone w) : meq P .eql t (Sl.v x) (Sl.v ⟨none, 0, 0⟩) K w := ⟨_, by simp [binOp, run_equal_slice_nil w t te x.a x.len x.cap ht.ok, KV], hK⟩
theorem rec_fields : (P.fieldsOf ztc).toList.map (fun f => (f.name, f.type, f.offset)) = [("Key", zt1, 0), ("Time", zt1, 1), ("Text", zt4, 2)] := by kernel_rfl
theorem meq_rec {x : Rec} {K : Bool → World → Prop} (hK : K true w) : meq P .eql ztc (KV zk2 x) (KV zk2 x) K w := by
  refine ⟨true, ?_, hK⟩
  obtain ⟨a, b, s, _⟩ := x
  have e : KV zk2 (a, b, s, ()) = .agg #[.int .i64 a, .int .i64 b, .string ⟨s.toArray⟩] := rfl
  rw [e, run_eql_struct, run_equalIn_agg w 9999 ztc _ _ (by kernel_rfl) (by kernel_rfl)]
  have hf := rec_fields
  cases h : (P.fieldsOf ztc).toList with
  | nil => rw [h] at hf; simp at hf
  | cons f1 l => cases l with
    | nil => rw [h] at hf; simp at hf
    | cons f2 l => cases l with
      | nil => rw [h] at hf; simp at hf
      | cons f3 l => cases l with
        | cons _ _ => rw [h] at hf; simp at hf
        | nil =>
          rw [h] at hf
          simp only [List.map_cons, List.map_nil, List.cons.injEq, Prod.mk.injEq, and_true] at hf
          obtain ⟨⟨n1, t1, o1⟩, ⟨n2, t2, o2⟩, n3, t3, o3⟩ := hf
          have hi : P.underlying zt1 = some (.int .i64) := by kernel_rfl
          have hs : P.underlying zt4 = some .string := by kernel_rfl
          have p1 : (part zt1 #[.int .i64 a, .int .i64 b, .string ⟨s.toArray⟩] 0).run P w = .ok (.int .i64 a) w := run_part_plain w (by kernel_rfl) rfl
          have p2 : (part zt1 #[.int .i64 a, .int .i64 b, .string ⟨s.toArray⟩] 1).run P w = .ok (.int .i64 b) w := run_part_plain w (by kernel_rfl) rfl
          have p3 : (part zt4 #[.int .i64 a, .int .i64 b, .string ⟨s.toArray⟩] 2).run P w = .ok (.string ⟨s.toArray⟩) w := run_part_plain w (by kernel_rfl) rfl
          have q1 : ∀ a : Int, (Op.equalIn 9999 zt1 (.int .i64 a) (.int .i64 a)).run P w = .ok true w := fun a => by have := run_equalIn_int w 9998 zt1 .i64 .i64 a a hi; rwa [beq_self_eq_true] at this
          have q3 : (Op.equalIn 9999 zt4 (.string ⟨s.toArray⟩) (.string ⟨s.toArray⟩)).run P w = .ok true w := by have := run_equalIn_string w 9998 zt4 ⟨s.toArray⟩ ⟨s.toArray⟩ hs; rwa [beq_self_eq_true] at this
          have k1 : ("Key" = "_") = False := by simp
          have k2 : ("Time" = "_") = False := by simp
          have k3 : ("Text" = "_") = False := by simp
          simp only [Op.eqFields, n1, n2, n3, t1, t2, t3, o1, o2, o3, ne_eq, k1, k2, k3, not_false_eq_true, if_true, Sem.run_bind, p1, p2, p3, q1, q3, Result.andThen_ok, Bool.not_true, Bool.false_eq_true, if_false, Sem.run_pure, KV]
def recChg : Rec := (0, 0, putAll [0, 3, 0, 0, 1], ())
theorem head_ok {R : Rec → World → Prop} {a b c e : Int} {l : Sl} (ha : I64 a) (hb : I64 b) (hc : I64 c) (he : I64 e) (h : SH o Γ w) (hR : ∀ w', SH o Γ w' → R (0, 0, putAll [0, a, b, c, e], ()) w') : mcall P n_zf13 [(KV zk1 (a, b, c, e, l, ()))] zk2 R w := by
  apply zf13_call
  refine bx_ok h fun x w h => ?_
  refine alo_ok h fun y w h => ?_
  refine ld_fld0 h ?_
  refine ld_fld h ?_
  refine ld_fld h ?_
  refine ld_fld h ?_
  refine bsl_ok h fun u w h => ?_
  dsimp only at h
  refine PutAll_ok (xs := [0, a, b, c, e]) h (fun n hn => ?_) (by simp) fun w h => ?_
  · simp only [List.mem_cons, List.not_mem_nil, or_false] at hn
    rcases hn with rfl | rfl | rfl | rfl | rfl
    · exact ⟨by omega, by omega⟩
    · exact ha
    · exact hb
    · exact hc
    · exact he
  refine sto_var h fun w h => ?_
  refine ld_var h ?_
  exact hR w h.to
theorem Diff_chg {R : Sl → World → Prop} (h : SH o Γ w) (hR : ∀ l w', SH o (slO l ztc zk2 [recChg] :: Γ) w' → R l w') :
    mcall P n_zf7 [(KV zk1 ((-1), 0, 0, 0, ⟨none, 0, 0⟩, ())), (KV zk1 (3, 0, 0, 1, ⟨none, 0, 0⟩, ()))] .sl R w := by
  apply zf7_call
  refine bx_ok h fun x w h => ?_
  refine bx_ok h fun y w h => ?_
  unfold zf7_1 zf7_2
  refine ld_fld0 (a := x) h ?_
  refine ld_fld0 (a := y) h ?_
  refine mif_ok (fun g => ?_) (fun g => ?_)
  · refine ld_var (a := y) h ?_
    refine head_ok ⟨by omega, by omega⟩ ⟨by omega, by omega⟩ ⟨by omega, by omega⟩ ⟨by omega, by omega⟩ h fun w h => ?_
    refine bsl_ok h fun u w h => ?_
    have h := h.nilS ztc zk2
    refine app_ok h (by simp) (fun y _ => okV_plain rfl y) fun l w h => ?_
    unfold zf7_3
    refine mdraw_ok h fun w h => ?_
    refine ld_fld (a := x) h ?_
    refine ld_fld (a := y) h ?_
    unfold zf7_4
    have h : SH o (slO l ztc zk2 [recChg] :: slO u ztc zk2 [recChg] :: vr y zt9 zk1 (3, 0, 0, 1, ⟨none, 0, 0⟩, ()) :: vr x zt9 zk1 ((-1), 0, 0, 0, ⟨none, 0, 0⟩, ()) :: Γ) w := h
    refine loop_ok (fun (_ : Unit) t w => t = (l, ⟨none, 0, 0⟩, ⟨none, 0, 0⟩, ()) ∧ SH o (slO l ztc zk2 [recChg] :: Γ) w) (fun _ => 0) () ⟨rfl, h.to⟩ ?_
    rintro _ _ w cont ⟨rfl, h⟩ _
    unfold zf7_6
    refine mif_ok (fun g => ?_) (fun g => ?_)
    · refine mif_ok (fun g => ?_) (fun g => ?_)
      · unfold zf7_5
        exact hR l w h
      · cases g
    · cases g
  · cases g
end
end Go.Proofs.YtpjhflboedicpaaGreatDoor
namespace Go.Proofs.YtpjhflboedicpaaGreatDoor
open Go Go.W
set_option maxRecDepth 100000
section
variable {o : Fix} {Γ Δ : List Assn} {w : World}
theorem none_ok {R : Bool → World → Prop} {pt lg : Addr} {x2 x3 x4 : Sl} (h : SH o Γ w) [hx : RdV pt ztw zk8 (some lg, x2, x3, x4, ()) Γ] (hR : R false w) : mcall P n_zf1w [(.pointer (some pt))] .b R w := by
  apply zf1w_call
  refine meq_ptr_nil ?_
  refine mif_ok (fun g => ?_) (fun g => ?_)
  · cases g
  refine mnil_ok ?_
  refine ld_fld0 (a := pt) h ?_
  refine meq_ptr_nil ?_
  exact hR
theorem PartOpen_nil {R : (Option Addr × Int × Unit) → World → Prop} {d : Addr} {room fuse : Int} {name : Bs} (h0 : name ≠ []) (h8 : name.length ≤ 8) (hin : ∀ c ∈ name, c ∈ letters36) (h : SH o (diskA d [] room fuse false :: Γ) w)
    (hR : ∀ p l w', SH o (vr p ztw zk8 (some l, ⟨none, 0, 0⟩, ⟨none, 0, 0⟩, ⟨none, 0, 0⟩, ()) :: vr l zt13 zkb (some d, name, ⟨none, 0, 0⟩, 0, 0, 0, 0, ()) :: diskA d [] room fuse false :: Γ) w' → R (some p, 0, ()) w') :
    mcall P n_zfm [(.pointer (some d)), (.string ⟨name.toArray⟩)] (.tup [.p, I]) R w := by
  apply zfm_call
  refine SegOpen_nil h0 h8 hin h fun l w h => ?_
  refine mif_ok (fun g => ?_) (fun g => ?_)
  · cases g
  refine bx_ok h fun p w h => ?_
  unfold zfm_1 zfm_3
  refine First_ok (lg := l) h ?_
  unfold zfm_4
  refine loop_ok (fun (_ : Unit) t w => t = (0, ()) ∧ SH o (vr p ztw zk8 (some l, ⟨none, 0, 0⟩, ⟨none, 0, 0⟩, ⟨none, 0, 0⟩, ()) :: vr l zt13 zkb (some d, name, ⟨none, 0, 0⟩, 0, 0, 0, 0, ()) :: diskA d [] room fuse false :: Γ) w) (fun _ => 0) () ⟨rfl, h⟩ ?_
  rintro _ _ w cont ⟨rfl, h⟩ _
  unfold zfm_5
  refine Next_ok (lg := l) h ?_
  refine mif_ok (fun g => ?_) (fun g => ?_)
  · cases g
  unfold zfm_2
  exact hR p l w h
theorem Look_zero {R : (Int × Bool × Int × Unit) → World → Prop} {l : Sl} {b : zT1} {rs : List Rec} (hm : bmay b.1 b.2.1 b.2.2.1 b.2.2.2.1 rs = true) (h2 : b.1 ≤ 2) (h0 : b.2.1 = 0) (h : SH o Γ w) [hr : RdS b.2.2.2.2.1 zk2 rs Γ] (hl : rs.length ≤ 9223372036854775807)
    (hR : ∀ w', SH o Γ w' → R (0, false, 0, ()) w') : mcall P n_zf1y [(Sl.v l), (KV zk1 b)] (.tup [I, .b, I]) R w := by
  apply zf1y_call
  refine bx_ok h fun a w h => ?_
  refine ld_var h ?_
  refine bCheck_ok h hl fun w h => ?_
  rw [if_pos hm]
  refine mif_ok (fun g => ?_) (fun g => ?_)
  · cases g
  refine ld_fld0 h ?_
  refine mif_ok (fun g => ?_) (fun g => ?_)
  · simp at g; omega
  refine ld_fld h ?_
  refine mif_ok (fun g => ?_) (fun g => ?_)
  · exact hR w h.drop
  · simp [h0] at g
theorem Note_zero {R : Sl → World → Prop} {b : zT1} {base : Int} (h0 : b.2.1 = 0) (h : SH o Γ w) (hR : ∀ w', SH o Γ w' → R ⟨none, 0, 0⟩ w') : mcall P n_zf3b [(Sl.v ⟨none, 0, 0⟩), (KV zk1 b), (.int .i64 base)] .sl R w := by
  apply zf3b_call
  refine bx_ok h fun a w h => ?_
  apply zf4d_call
  refine meq_sl_nil ?_
  refine mif_ok (fun g => ?_) (fun g => ?_)
  · refine ld_fld h ?_
    refine mif_ok (fun g => ?_) (fun g => ?_)
    · exact hR w h.drop
    · simp [h0] at g
  · cases g
theorem find_nil {R : Int → World → Prop} {pt : Addr} {x1 : Option Addr} {x2 x4 : Sl} {pid : Int} (h : SH o Γ w) [hx : RdV pt ztw zk8 (x1, x2, ⟨none, 0, 0⟩, x4, ()) Γ] (hR : ∀ w', SH o Γ w' → R (-1) w') :
    mcall P n_zf3c [(.pointer (some pt)), (.int .i64 pid)] I R w := by
  apply zf3c_call
  refine bx_ok h fun a w h => ?_
  refine mnil_ok ?_
  refine ld_fld (a := pt) h ?_
  apply zf4f_call
  unfold zf4f_0 zf4f_1 zf4f_3 zf4f_4
  refine loop_ok (fun (_ : Unit) t w => t = (0, ()) ∧ SH o Γ w) (fun _ => 0) () ⟨rfl, h.drop⟩ ?_
  rintro _ _ w cont ⟨rfl, h⟩ _
  unfold zf4f_5
  refine mif_ok (fun g => ?_) (fun g => ?_)
  · cases g
  unfold zf4f_2
  exact hR w h
theorem took_data {R : Unit → World → Prop} {pt : Addr} {lg : Option Addr} {q base : Int} {l : Sl} (h : SH o (vr pt ztw zk8 (lg, ⟨none, 0, 0⟩, ⟨none, 0, 0⟩, ⟨none, 0, 0⟩, ()) :: Γ) w)
    (hR : ∀ w', SH o (vr pt ztw zk8 (lg, ⟨none, 0, 0⟩, ⟨none, 0, 0⟩, ⟨none, 0, 0⟩, ()) :: Γ) w' → R () w') :
    mcall P n_zf1v [(.pointer (some pt)), (KV zk1 (1, 0, 0, q, l, ())), (.int .i64 base)] (.tup []) R w := by
  apply zf1v_call
  refine bx_ok h fun a w h => ?_
  refine mdraw_ok h fun w h => ?_
  refine mnil_ok ?_
  refine ld_fld (a := pt) h ?_
  refine ld_var (a := a) h ?_
  refine Note_zero rfl h fun w h => ?_
  refine mnil_ok ?_
  refine sto_fld (a := pt) h fun w h => ?_
  refine ld_fld (a := a) h ?_
  refine find_nil (pt := pt) h fun w h => ?_
  refine ld_fld0 (a := a) h ?_
  refine mif_ok (fun g => ?_) (fun g => ?_)
  · cases g
  refine ld_fld0 (a := a) h ?_
  refine mif_ok (fun g => ?_) (fun g => ?_)
  · cases g
  refine ld_fld0 (a := a) h ?_
  refine mif_ok (fun g => ?_) (fun g => ?_)
  · cases g
  have h : SH o (vr pt ztw zk8 (lg, ⟨none, 0, 0⟩, ⟨none, 0, 0⟩, ⟨none, 0, 0⟩, ()) :: vr a ztj zk1 (1, 0, 0, q, l, ()) :: Γ) w := h
  exact hR w h.to
theorem flay_short {e : Ent} (h : fcheck e = true) : (flay e).length ≤ e.2.2.1.length + 40 := by
  have hc := h
  simp [fcheck] at hc
  have g1 := putAll_len (l := [e.1, e.2.1]) (by intro n hn; simp at hn; rcases hn with rfl | rfl <;> constructor <;> omega)
  have hb := fbody_len h
  have := vput_len (n := (putAll [e.1, e.2.1] ++ e.2.2.1).length) ⟨by omega, by omega⟩
  unfold flay sealed ptext
  simp only [List.length_append, le4_len, List.length_cons, List.length_nil] at g1 hb this ⊢; omega
theorem Put_first {R : (Int × Bool × Int × Unit) → World → Prop} {d lg pt : Addr} {l : Sl} {room : Int} {name : Bs} {r : Rec} (h0 : name ≠ []) (h8 : name.length ≤ 8) (hin : ∀ c ∈ name, c ∈ letters36) (hr : mayRec r = true) (hroom : 50 ≤ room ∧ room ≤ 1099511627)
    (h : SH o (vr pt ztw zk8 (some lg, ⟨none, 0, 0⟩, ⟨none, 0, 0⟩, ⟨none, 0, 0⟩, ()) :: vr lg zt13 zkb (some d, name, ⟨none, 0, 0⟩, 0, 0, 0, 0, ()) :: diskA d [] room (-1) false :: slO l ztc zk2 [r] :: Γ) w)
    (hR : ∀ S M room' w', SH o (vr pt ztw zk8 (some lg, ⟨none, 0, 0⟩, ⟨none, 0, 0⟩, ⟨none, 0, 0⟩, ()) :: vr lg zt13 zkb (some d, name, S, 0, 1, 1, 0, ()) :: slO S zt15 zkg [((0, (flay (0, 1, encB 1 0 0 0 [r], ())).length, 1, ()), M, ())] ::
      slO M zt1g zk0 [(0, 0, 0, ())] :: diskA d [(segFile name 0, flay (0, 1, encB 1 0 0 0 [r], ()), [])] room' (-1) false :: slO l ztc zk2 [r] :: Γ) w' → R (0, false, 0, ()) w') :
    mcall P n_zfn [(.pointer (some pt)), (KV zk1 (1, 0, 0, 0, l, ()))] (.tup [I, .b, I]) R w := by
  have hm : bmay 1 0 0 0 [r] = true := by simp [bmay, inB, bkind, hr]
  have hel : (encB 1 0 0 0 [r]).length ≤ 592 := by
    have g1 := encRec_len hr
    have g2 := putAll_len (l := [1, 0, 0, 0, 1]) (by intro n hn; simp at hn; rcases hn with rfl | rfl | rfl <;> constructor <;> omega)
    unfold encB encRecs; simp at g2 ⊢; omega
  have hfc : fcheck (0, 1, encB 1 0 0 0 [r], ()) = true := by simp [fcheck]; omega
  have hfl := flay_short hfc
  dsimp only at hfl
  have hbk := blk_pos (flay (0, 1, encB 1 0 0 0 [r], ())).length
  have hbk2 : blk (flay (0, 1, encB 1 0 0 0 [r], ())).length ≤ 50 := by unfold blk mx; split <;> omega
  have hlen := (h.drop.drop.drop).len (s := l)
  simp only [List.length_cons, List.length_nil] at hlen
  apply zfn_call
  refine bx_ok h fun a w h => ?_
  refine none_ok (pt := pt) h ?_
  refine mif_ok (fun g => ?_) (fun g => ?_)
  · cases g
  refine mnil_ok ?_
  refine ld_fld0 (a := pt) h ?_
  refine Broken_ok (lg := lg) h ?_
  refine mif_ok (fun g => ?_) (fun g => ?_)
  · cases g
  refine mdraw_ok h fun w h => ?_
  refine mnil_ok ?_
  refine ld_fld (a := pt) h ?_
  refine ld_var (a := a) h ?_
  refine Look_zero (rs := [r]) hm (by show (1 : Int) ≤ 2; omega) rfl h (by simp) fun w h => ?_
  refine mif_ok (fun g => ?_) (fun g => ?_)
  · cases g
  refine mif_ok (fun g => ?_) (fun g => ?_)
  · cases g
  refine ld_var (a := a) h ?_
  apply zf1z_call
  refine bx_ok h fun b w h => ?_
  refine ld_var (a := b) h ?_
  refine Encode_ok (rs := [r]) h (by simp) fun w h => ?_
  dsimp only
  rw [if_pos hm]
  refine mif_ok (fun g => ?_) (fun g => ?_)
  · cases g
  refine mdraw_ok h fun w h => ?_
  refine mnil_ok ?_
  refine ld_fld0 (a := pt) h ?_
  refine ld_var (a := b) h ?_
  refine Len_ok h fun w h => ?_
  have hmx : mx 1 (l.len : Int) = 1 := by rw [hlen]; decide
  dsimp only
  rw [hmx]
  refine mst_fld0 (a := pt) h ?_
  refine bsl_ok h fun it w h => ?_
  refine mst_fld0 (a := pt) h ?_
  have h : SH o (vr lg zt13 zkb (some d, name, ⟨none, 0, 0⟩, 0, 0, 0, 0, ()) :: diskA d [] room (-1) false :: slO it zt19 zke [(1, encB 1 0 0 0 [r], ())] ::
    vr b ztj zk1 (1, 0, 0, 0, l, ()) :: vr pt ztw zk8 (some lg, ⟨none, 0, 0⟩, ⟨none, 0, 0⟩, ⟨none, 0, 0⟩, ()) :: slO l ztc zk2 [r] :: Γ) w := h.to
  refine SegAppend_first (n := 1) (text := encB 1 0 0 0 [r]) h0 h8 hin hfc (by omega) ⟨by omega, by omega⟩ h fun S M w h => ?_
  refine mif_ok (fun g => ?_) (fun g => ?_)
  · cases g
  refine mnil_ok ?_
  refine ld_fld0 (a := pt) h ?_
  have h : SH o (vr lg zt13 zkb (some d, name, S, 0, 1, 0, 0, ()) :: slO S zt15 zkg [((0, (flay (0, 1, encB 1 0 0 0 [r], ())).length, 1, ()), M, ())] ::
    diskA d [(segFile name 0, [], flay (0, 1, encB 1 0 0 0 [r], ()))] (room - blk (flay (0, 1, encB 1 0 0 0 [r], ())).length) (-1) false :: slO M zt1g zk0 [(0, 0, 0, ())] ::
    vr b ztj zk1 (1, 0, 0, 0, l, ()) :: vr pt ztw zk8 (some lg, ⟨none, 0, 0⟩, ⟨none, 0, 0⟩, ⟨none, 0, 0⟩, ()) :: slO l ztc zk2 [r] :: Γ) w := h.to
  refine LogSync_ok h8 hin (by simp; omega) h fun w h => ?_
  rw [List.nil_append] at h
  refine mif_ok (fun g => ?_) (fun g => ?_)
  · cases g
  refine ld_var (a := b) h ?_
  have h : SH o (vr pt ztw zk8 (some lg, ⟨none, 0, 0⟩, ⟨none, 0, 0⟩, ⟨none, 0, 0⟩, ()) :: vr lg zt13 zkb (some d, name, S, 0, 1, 1, 0, ()) :: slO S zt15 zkg [((0, (flay (0, 1, encB 1 0 0 0 [r], ())).length, 1, ()), M, ())] ::
    slO M zt1g zk0 [(0, 0, 0, ())] :: diskA d [(segFile name 0, flay (0, 1, encB 1 0 0 0 [r], ()), [])] (room - blk (flay (0, 1, encB 1 0 0 0 [r], ())).length) (-1) false :: slO l ztc zk2 [r] :: Γ) w := h.to
  refine took_data h fun w h => ?_
  exact hR S M _ w h
theorem Stable_nil {R : Int → World → Prop} {pt lg : Addr} {x2 x4 : Sl} {x : zTb} (h : SH o Γ w) [hp : RdV pt ztw zk8 (some lg, x2, ⟨none, 0, 0⟩, x4, ()) Γ] [hx : RdV lg zt13 zkb x Γ] (hR : R x.2.2.2.2.1 w) :
    mcall P n_zf20 [(.pointer (some pt))] I R w := by
  apply zf20_call
  refine none_ok (pt := pt) h ?_
  refine mif_ok (fun g => ?_) (fun g => ?_)
  · cases g
  refine mnil_ok ?_
  refine ld_fld (a := pt) h ?_
  refine mif_ok (fun g => ?_) (fun g => ?_)
  · cases g
  refine mnil_ok ?_
  refine ld_fld0 (a := pt) h ?_
  exact Next_ok (lg := lg) h hR
theorem PartFetch_one {R : (Sl × Int × Int × Unit) → World → Prop} {d lg pt : Addr} {S M : Sl} {room a1 a2 : Int} {name : Bs} {r : Rec} (h8 : name.length ≤ 8) (hin : ∀ c ∈ name, c ∈ letters36) (hr : mayRec r = true)
    (h : SH o (vr pt ztw zk8 (some lg, ⟨none, 0, 0⟩, ⟨none, 0, 0⟩, ⟨none, 0, 0⟩, ()) :: vr lg zt13 zkb (some d, name, S, 0, 1, 1, 0, ()) :: slO S zt15 zkg [((0, a1, a2, ()), M, ())] :: slO M zt1g zk0 [(0, 0, 0, ())] :: diskA d [(segFile name 0, flay (0, 1, encB 1 0 0 0 [r], ()), [])] room (-1) false :: Γ) w)
    (hR : ∀ G w', SH o (slO G ztd zk3 [(0, r, ())] :: vr pt ztw zk8 (some lg, ⟨none, 0, 0⟩, ⟨none, 0, 0⟩, ⟨none, 0, 0⟩, ()) :: vr lg zt13 zkb (some d, name, S, 0, 1, 1, 0, ()) :: slO S zt15 zkg [((0, a1, a2, ()), M, ())] :: slO M zt1g zk0 [(0, 0, 0, ())] :: diskA d [(segFile name 0, flay (0, 1, encB 1 0 0 0 [r], ()), [])] room (-1) false :: Γ) w' → R (G, 1, 0, ()) w') :
    mcall P n_zfo [(.pointer (some pt)), (.int .i64 0), (.int .i64 9), (.bool true)] (.tup [.sl, I, I]) R w := by
  have hm : bmay 1 0 0 0 [r] = true := by simp [bmay, inB, bkind, hr]
  have hel := encB_len hm
  have hfc : fcheck (0, 1, encB 1 0 0 0 [r], ()) = true := by simp [fcheck]; omega
  have hfl := flay_short hfc
  dsimp only at hfl
  have hrow : rowM (flay (0, 1, encB 1 0 0 0 [r], ())) = [(((flay (0, 1, encB 1 0 0 0 [r], ())).length : Int) - (([] : Bs).length : Nat), (0, 1, encB 1 0 0 0 [r], ()))] := by
    have := ftake_lay hfc []
    rw [List.append_nil] at this
    rw [rowM_some this, rowM_none ftake_nil]
  apply zfo_call
  refine none_ok (pt := pt) h ?_
  refine mif_ok (fun g => ?_) (fun g => ?_)
  · cases g
  refine mnil_ok ?_
  refine ld_fld0 (a := pt) h ?_
  have h : SH o (vr lg zt13 zkb (some d, name, S, 0, 1, 1, 0, ()) :: slO S zt15 zkg [((0, a1, a2, ()), M, ())] :: slO M zt1g zk0 [(0, 0, 0, ())] :: diskA d [(segFile name 0, flay (0, 1, encB 1 0 0 0 [r], ()), [])] room (-1) false :: vr pt ztw zk8 (some lg, ⟨none, 0, 0⟩, ⟨none, 0, 0⟩, ⟨none, 0, 0⟩, ()) :: Γ) w := h.to
  refine Fetch_one h8 hin (by omega) hrow ⟨by show (0 : Int) < 0 + 1; omega, by show (0 : Int) + 1 ≤ _; omega⟩ (by omega) h fun E w h => ?_
  refine mif_ok (fun g => ?_) (fun g => ?_)
  · cases g
  unfold zfo_1 zfo_3 zfo_4
  have hE := h.len (s := E)
  simp only [List.length_cons, List.length_nil] at hE
  dsimp only
  refine loop_ok (fun (i : Nat) t w => (i = 0 ∧ t = (⟨none, 0, 0⟩, 0, 0, ()) ∧ SH o (slO E zty zk2 [(0, 1, encB 1 0 0 0 [r], ())] :: vr lg zt13 zkb (some d, name, S, 0, 1, 1, 0, ()) :: slO S zt15 zkg [((0, a1, a2, ()), M, ())] :: slO M zt1g zk0 [(0, 0, 0, ())] :: diskA d [(segFile name 0, flay (0, 1, encB 1 0 0 0 [r], ()), [])] room (-1) false :: vr pt ztw zk8 (some lg, ⟨none, 0, 0⟩, ⟨none, 0, 0⟩, ⟨none, 0, 0⟩, ()) :: Γ) w) ∨
    (i = 1 ∧ ∃ G, t = (G, 1, 1, ()) ∧ SH o (slO G ztd zk3 [(0, r, ())] :: vr pt ztw zk8 (some lg, ⟨none, 0, 0⟩, ⟨none, 0, 0⟩, ⟨none, 0, 0⟩, ()) :: vr lg zt13 zkb (some d, name, S, 0, 1, 1, 0, ()) :: slO S zt15 zkg [((0, a1, a2, ()), M, ())] :: slO M zt1g zk0 [(0, 0, 0, ())] :: diskA d [(segFile name 0, flay (0, 1, encB 1 0 0 0 [r], ()), [])] room (-1) false :: Γ) w)) (fun i => 2 - i) 0 (.inl ⟨rfl, rfl, h⟩) ?_
  clear h
  rintro i _ w cont hinv hcont
  unfold zfo_5
  rcases hinv with ⟨rfl, rfl, h⟩ | ⟨rfl, G, rfl, h⟩
  · dsimp only
    refine mif_ok (fun g => ?_) (fun g => ?_)
    · unfold zfo_6 zfo_8
      refine ixa_ok (s := E) h (by omega) (by omega) fun e ea => ?_
      refine ld_el ea h rfl ?_
      refine alo_ok h fun x w h => ?_
      refine sto_var h fun w h => ?_
      refine mdraw_ok h fun w h => ?_
      refine mif_ok (fun g => ?_) (fun g => ?_)
      · refine ld_fld0 (a := x) h ?_
        refine Stable_nil (pt := pt) (lg := lg) h ?_
        refine mst_fld0 (a := x) h ?_
        refine mif_ok (fun g => ?_) (fun g => ?_)
        · cases g
        unfold zfo_9
        refine ld_fld0 (a := x) h ?_
        refine ld_fld (a := x) h ?_
        refine ld_fld (a := x) h ?_
        dsimp only
        refine Decode_ok (by omega) h (fun l k p e q rs w hd h => ?_) (fun w hd h => ?_)
        · rw [decB_enc hm] at hd
          simp only [Option.some.injEq, Prod.mk.injEq] at hd
          obtain ⟨rfl, rfl, rfl, rfl, rfl⟩ := hd
          refine alo_ok h fun b w h => ?_
          refine sto_var h fun w h => ?_
          have hl := h.len (s := l)
          simp only [List.length_cons, List.length_nil] at hl
          refine mif_ok (fun g => ?_) (fun g => ?_)
          · refine ld_fld0 (a := b) h ?_
            refine mif_ok (fun g => ?_) (fun g => ?_)
            · cases g
            unfold zfo_10
            refine ld_fld (a := b) h ?_
            unfold zfo_11
            rw [w64_of (by omega) (by omega)]
            dsimp only
            have h : SH o (slO l ztc zk2 [r] :: vr x zty zk2 (0, 1, encB 1 0 0 0 [r], ()) :: vr pt ztw zk8 (some lg, ⟨none, 0, 0⟩, ⟨none, 0, 0⟩, ⟨none, 0, 0⟩, ()) :: vr lg zt13 zkb (some d, name, S, 0, 1, 1, 0, ()) :: slO S zt15 zkg [((0, a1, a2, ()), M, ())] :: slO M zt1g zk0 [(0, 0, 0, ())] :: diskA d [(segFile name 0, flay (0, 1, encB 1 0 0 0 [r], ()), [])] room (-1) false :: Γ) w := h.to
            refine loop_ok (fun (i : Nat) t w => (i = 0 ∧ t = (⟨none, 0, 0⟩, 0, ()) ∧ SH o (slO l ztc zk2 [r] :: vr x zty zk2 (0, 1, encB 1 0 0 0 [r], ()) :: vr pt ztw zk8 (some lg, ⟨none, 0, 0⟩, ⟨none, 0, 0⟩, ⟨none, 0, 0⟩, ()) :: vr lg zt13 zkb (some d, name, S, 0, 1, 1, 0, ()) :: slO S zt15 zkg [((0, a1, a2, ()), M, ())] :: slO M zt1g zk0 [(0, 0, 0, ())] :: diskA d [(segFile name 0, flay (0, 1, encB 1 0 0 0 [r], ()), [])] room (-1) false :: Γ) w) ∨
              (i = 1 ∧ ∃ G, t = (G, 1, ()) ∧ SH o (slO G ztd zk3 [(0, r, ())] :: vr pt ztw zk8 (some lg, ⟨none, 0, 0⟩, ⟨none, 0, 0⟩, ⟨none, 0, 0⟩, ()) :: vr lg zt13 zkb (some d, name, S, 0, 1, 1, 0, ()) :: slO S zt15 zkg [((0, a1, a2, ()), M, ())] :: slO M zt1g zk0 [(0, 0, 0, ())] :: diskA d [(segFile name 0, flay (0, 1, encB 1 0 0 0 [r], ()), [])] room (-1) false :: Γ) w)) (fun i => 2 - i) 0 (.inl ⟨rfl, rfl, h⟩) ?_
            clear h
            rintro i _ w cont2 hinv hcont2
            unfold zfo_12
            rcases hinv with ⟨rfl, rfl, h⟩ | ⟨rfl, G, rfl, h⟩
            · dsimp only
              refine mif_ok (fun g => ?_) (fun g => ?_)
              · refine ixa_ok (s := l) h (by omega) (by omega) fun e2 ea2 => ?_
                refine ld_el ea2 h rfl ?_
                refine alo_ok h fun y w h => ?_
                refine sto_var h fun w h => ?_
                refine ld_fld0 (a := x) h ?_
                refine mif_ok (fun g => ?_) (fun g => ?_)
                · refine ld_fld0 (a := x) h ?_
                  refine ld_var (a := y) h ?_
                  dsimp only
                  rw [w64_of (by omega) (by omega)]
                  refine bsl_ok h fun u w h => ?_
                  have h := h.nilS ztd zk3
                  refine app_ok h (by simp) (fun y _ => okV_plain rfl y) fun G w h => ?_
                  unfold zfo_13
                  rw [w64_of (by omega) (by omega)]
                  refine hcont2 1 _ w (by omega) (.inr ⟨rfl, G, rfl, ?_⟩)
                  have h : SH o (slO G ztd zk3 [(0, r, ())] :: slO u ztd zk3 [(0, r, ())] :: vr y ztc zk2 r :: slO l ztc zk2 [r] :: vr x zty zk2 (0, 1, encB 1 0 0 0 [r], ()) :: vr pt ztw zk8 (some lg, ⟨none, 0, 0⟩, ⟨none, 0, 0⟩, ⟨none, 0, 0⟩, ()) :: vr lg zt13 zkb (some d, name, S, 0, 1, 1, 0, ()) :: slO S zt15 zkg [((0, a1, a2, ()), M, ())] :: slO M zt1g zk0 [(0, 0, 0, ())] :: diskA d [(segFile name 0, flay (0, 1, encB 1 0 0 0 [r], ()), [])] room (-1) false :: Γ) w := h
                  exact h.to
                · cases g
              · simp at g; omega
            · dsimp only
              refine mif_ok (fun g => ?_) (fun g => ?_)
              · simp at g; omega
              unfold zfo_7
              rw [w64_of (by omega) (by omega)]
              exact hcont 1 _ w (by omega) (.inr ⟨rfl, G, rfl, h⟩)
          · cases g
        · rw [decB_enc hm] at hd; cases hd
      · cases g
    · simp at g; omega
  · dsimp only
    refine mif_ok (fun g => ?_) (fun g => ?_)
    · simp at g; omega
    unfold zfo_2
    exact hR G w h
end
end Go.Proofs.YtpjhflboedicpaaGreatDoor
namespace Go.Proofs.YtpjhflboedicpaaGreatDoor
open Go Go.W
set_option maxRecDepth 100000
section
variable {o : Fix} {Γ Δ : List Assn} {w : World}
theorem recChg_may : mayRec recChg = true := by
  have h := putAll_len (l := [0, 3, 0, 0, 1]) (by intro n hn; simp only [List.mem_cons, List.not_mem_nil, or_false] at hn; rcases hn with rfl | rfl | rfl | rfl | rfl <;> constructor <;> omega)
  simp only [List.length_cons, List.length_nil] at h
  have h2 : (putAll [0, 3, 0, 0, 1]).length ≤ 512 := by omega
  simp [mayRec, recChg, inB, h2]
theorem awake17_ok {R : Bool → World → Prop} (h : SH o Γ w) (hR : ∀ w', SH o Γ w' → R true w') : mcall P n_zf3 [] .b R w := by
  apply zf3_call
  have h8 : ([99, 104, 103, 48] : Bs).length ≤ 8 := by decide
  have hin : ∀ c ∈ ([99, 104, 103, 48] : Bs), c ∈ letters36 := by decide
  refine New_ok ⟨by omega, by omega⟩ h fun d w h => ?_
  refine PartOpen_nil (by decide) h8 hin h fun pt lg w h => ?_
  refine mif_ok (fun g => ?_) (fun g => ?_)
  · cases g
  refine mif_ok (fun g => ?_) (fun g => ?_)
  · cases g
  refine meq_ptr_nil ?_
  refine mif_ok (fun g => ?_) (fun g => ?_)
  · cases g
  refine Diff_chg h fun l w h => ?_
  have h : SH o (vr pt ztw zk8 (some lg, ⟨none, 0, 0⟩, ⟨none, 0, 0⟩, ⟨none, 0, 0⟩, ()) :: vr lg zt13 zkb (some d, [99, 104, 103, 48], ⟨none, 0, 0⟩, 0, 0, 0, 0, ()) :: diskA d [] 50 (-1) false :: slO l ztc zk2 [recChg] :: Γ) w := h.to
  refine Put_first (by decide) h8 hin recChg_may ⟨by omega, by omega⟩ h fun S M room w h => ?_
  refine PartFetch_one h8 hin recChg_may h fun G w h => ?_
  refine mdraw_ok h fun w h => ?_
  have hl := h.len (s := l)
  have hG := h.len (s := G)
  simp only [List.length_cons, List.length_nil] at hl hG
  refine mif_ok (fun g => ?_) (fun g => ?_)
  · refine mif_ok (fun g => ?_) (fun g => ?_)
    · refine mif_ok (fun g => ?_) (fun g => ?_)
      · refine mif_ok (fun g => ?_) (fun g => ?_)
        · refine mif_ok (fun g => ?_) (fun g => ?_)
          · refine ixa_ok (s := G) h (by omega) (by omega) fun e ea => ?_
            refine ld_elf ea h rfl ?_
            refine ixa_ok (s := l) h (by omega) (by omega) fun e2 ea2 => ?_
            refine ld_el ea2 h rfl ?_
            refine meq_rec ?_
            refine mif_ok (fun g => ?_) (fun g => ?_)
            · exact hR w h.to
            · cases g
          · simp at g; omega
        · cases g
      · cases g
    · cases g
  · simp at g; omega
end
end Go.Proofs.YtpjhflboedicpaaGreatDoor
