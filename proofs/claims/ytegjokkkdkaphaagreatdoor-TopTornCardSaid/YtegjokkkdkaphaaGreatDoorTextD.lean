/- Short texts of functions of the program, each with the proof that a call comes to it. No condition. -/
import Derived.Test.YtegjokkkdkaphaaGreatDoorNames
set_option linter.unusedVariables false
set_option linter.unusedSimpArgs false
namespace Go.Proofs.YtegjokkkdkaphaaGreatDoor
open Go Go.W
set_option maxRecDepth 100000
/- headgate part.Open -/
noncomputable abbrev part_Open_B : Code := (Tryz.f30.body).getD .skip
abbrev part_Open_l1 : Slots := [(0, .p), (1, .s)]
abbrev part_Open_l2 : Slots := [(6, .p), (8, .ad)]
abbrev part_Open_l3 : Slots := [(8, .ad)]
def part_Open_2 (R : (Option Addr × Int × Unit) → World → Prop) (p_8 : Addr) : World → Prop :=
 R ((some p_8), 0, ())
abbrev part_Open_l4 : Slots := [(6, .p), (8, .ad)]
abbrev part_Open_l5 : Slots := [(9, I)]
abbrev part_Open_l6 : Slots := [(6, .p), (8, .ad)]
abbrev part_Open_l7 : Slots := [(6, .p), (8, .ad), (9, I)]
abbrev part_Open_l8 : Slots := [(6, .p), (8, .ad), (9, I)]
abbrev part_Open_l9 : Slots := [(9, I), (45, I)]
abbrev part_Open_l10 : Slots := [(6, .p), (8, .ad), (43, .sl), (44, I)]
def part_Open_9 (c2 : (Int × Int × Unit) → (Option Addr × Addr × Sl × Int × Unit) → World → Prop) (c1 : (Int × Unit) → (Option Addr × Addr × Unit) → World → Prop) (R : (Option Addr × Int × Unit) → World → Prop) (at_9 : Int) (v45 : Int) (l_6 : Option Addr) (p_8 : Addr) (v43 : Sl) (v44 : Int) : World → Prop :=
 mif (decide (v45 < v44))
 (ixa P t_sl_api_Entry (Sl.v v43) v45 fun (x6 : Addr) =>
 ld P t_api_Entry x6 k_api_Record fun (x7 : T_api_Record) =>
 alo P t_api_Entry fun a8 =>
 sto P t_api_Entry a8 k_api_Record x7 <|
 ld P t_string (ad a8 2) .s fun (x9 : Bs) =>
 mcall P n_batch_Decode [(.string ⟨x9.toArray⟩)] (.tup [k_api_Batch, I]) fun (x10 : T_api_Batch × Int × Unit) =>
 alo P t_api_Batch fun a11 =>
 sto P t_api_Batch a11 k_api_Batch x10.1 <|
 mdraw <|
 mif (x10.2.1 != 0)
 (R (none, 2, ()))
 (ld P t_api_Batch a11 k_api_Batch fun (x12 : T_api_Batch) =>
 ld P t_int (ad a8 1) I fun (x13 : Int) =>
 mcall P n_batch_Len [(KV k_api_Batch x12)] I fun (x14 : Int) =>
 mst P (Instr.loadAt t_int (.pointer (some (ad a8 1)))) (.int .i64 x13) <|
 mif (x14 != x13)
 (R (none, 2, ()))
 (ld P t_api_Batch a11 k_api_Batch fun (x15 : T_api_Batch) =>
 ld P t_int a8 I fun (x16 : Int) =>
 mcall P n_part_Part_took [(.pointer (some p_8)), (KV k_api_Batch x15), (.int .i64 x16)] (.tup []) fun (x17 : Unit) =>
 ld P t_int a8 I fun (x18 : Int) =>
 ld P t_int (ad a8 1) I fun (x19 : Int) =>
 c2 (w64 (x18 + x19), w64 (v45 + 1), ()) (l_6, p_8, v43, v44, ()))))
 (c1 (at_9, ()) (l_6, p_8, ()))
def part_Open_8 (c1 : (Int × Unit) → (Option Addr × Addr × Unit) → World → Prop) (R : (Option Addr × Int × Unit) → World → Prop) (at_9 : Int) (v45 : Int) (l_6 : Option Addr) (p_8 : Addr) (v43 : Sl) (v44 : Int) : World → Prop :=
 W.Loop (l_6, p_8, v43, v44, ()) (fun (c2 : (Int × Int × Unit) → (Option Addr × Addr × Sl × Int × Unit) → World → Prop) (s : Int × Int × Unit) => part_Open_9 c2 c1 R s.1 s.2.1 l_6 p_8 v43 v44) (at_9, v45, ())
def part_Open_7 (c1 : (Int × Unit) → (Option Addr × Addr × Unit) → World → Prop) (R : (Option Addr × Int × Unit) → World → Prop) (l_6 : Option Addr) (p_8 : Addr) (at_9 : Int) : World → Prop :=
 mcall P n_seglog_Log_Fetch [(.pointer l_6), (.int .i64 at_9), (.int .i64 32)] (.tup [.sl, I]) fun (x5 : Sl × Int × Unit) =>
 mif (x5.2.1 != 0)
 (R (none, x5.2.1, ()))
 (part_Open_8 c1 R at_9 0 l_6 p_8 x5.1 (x5.1.len : Int))
def part_Open_6 (c1 : (Int × Unit) → (Option Addr × Addr × Unit) → World → Prop) (R : (Option Addr × Int × Unit) → World → Prop) (l_6 : Option Addr) (p_8 : Addr) (at_9 : Int) : World → Prop :=
 part_Open_7 c1 R l_6 p_8 at_9
def part_Open_5 (c1 : (Int × Unit) → (Option Addr × Addr × Unit) → World → Prop) (R : (Option Addr × Int × Unit) → World → Prop) (at_9 : Int) (l_6 : Option Addr) (p_8 : Addr) : World → Prop :=
 mcall P n_seglog_Log_Next [(.pointer l_6)] I fun (x4 : Int) =>
 mif (decide (at_9 < x4))
 (part_Open_6 c1 R l_6 p_8 at_9)
 (part_Open_2 R p_8)
def part_Open_4 (R : (Option Addr × Int × Unit) → World → Prop) (at_9 : Int) (l_6 : Option Addr) (p_8 : Addr) : World → Prop :=
 W.Loop (l_6, p_8, ()) (fun (c1 : (Int × Unit) → (Option Addr × Addr × Unit) → World → Prop) (s : Int × Unit) => part_Open_5 c1 R s.1 l_6 p_8) (at_9, ())
def part_Open_3 (R : (Option Addr × Int × Unit) → World → Prop) (l_6 : Option Addr) (p_8 : Addr) : World → Prop :=
 mcall P n_seglog_Log_First [(.pointer l_6)] I fun (x3 : Int) =>
 part_Open_4 R x3 l_6 p_8
def part_Open_1 (R : (Option Addr × Int × Unit) → World → Prop) (l_6 : Option Addr) (p_8 : Addr) : World → Prop :=
 part_Open_3 R l_6 p_8
def part_Open_0 (R : (Option Addr × Int × Unit) → World → Prop) (d_0 : Option Addr) (name_1 : Bs) : World → Prop :=
 mcall P n_seglog_Open [(.pointer d_0), (.string ⟨name_1.toArray⟩)] (.tup [.p, I]) fun (x1 : Option Addr × Int × Unit) =>
 mif (x1.2.1 != 0)
 (R (none, x1.2.1, ()))
 (bx P t_part_Part k_part_Part (x1.1, ⟨none, 0, 0⟩, ⟨none, 0, 0⟩, ⟨none, 0, 0⟩, ()) fun a2 =>
 part_Open_1 R x1.1 a2)
theorem part_Open_2_ok (R : (Option Addr × Int × Unit) → World → Prop) (p_8 : Addr) (w : World) (h : part_Open_2 R p_8 w) : WPC P 76 [] (Code.at part_Open_B [.snd, .snd, .snd, .snd, .snd]) (topQ P [.tmp 4, .tmp 5] (.tup [.p, I]) R) (mkE 76 part_Open_l3 (p_8, ())) w :=
  pc_end (T := part_Open_2 R p_8 w) hmix (by kernel_rfl) h
theorem part_Open_9_ok (c2 : (Int × Int × Unit) → (Option Addr × Addr × Sl × Int × Unit) → World → Prop) (c1 : (Int × Unit) → (Option Addr × Addr × Unit) → World → Prop) (R : (Option Addr × Int × Unit) → World → Prop) (at_9 : Int) (v45 : Int) (l_6 : Option Addr) (p_8 : Addr) (v43 : Sl) (v44 : Int) (w : World) (h : part_Open_9 c2 c1 R at_9 v45 l_6 p_8 v43 v44 w) : WPC P 76 [] (Code.at part_Open_B [.snd, .snd, .snd, .snd, .fst, .snd, .blk, .blk, .snd, .blk, .snd, .snd, .snd, .blk, .blk]) (thenQ (fun env => getE env part_Open_l9 fun (s : Int × Int × Unit) => getE env part_Open_l10 (c2 s)) (blockQ 2 ((blockQ 1 ((thenQ (fun env => getE env part_Open_l5 fun (s : Int × Unit) => getE env part_Open_l6 (c1 s)) (blockQ 0 ((thenQ (fun env => getE env part_Open_l3 fun (x : Addr × Unit) => part_Open_2 R x.1) (topQ P [.tmp 4, .tmp 5] (.tup [.p, I]) R)) .normal) (thenQ (fun env => getE env part_Open_l3 fun (x : Addr × Unit) => part_Open_2 R x.1) (topQ P [.tmp 4, .tmp 5] (.tup [.p, I]) R)))) .normal) (thenQ (fun env => getE env part_Open_l5 fun (s : Int × Unit) => getE env part_Open_l6 (c1 s)) (blockQ 0 ((thenQ (fun env => getE env part_Open_l3 fun (x : Addr × Unit) => part_Open_2 R x.1) (topQ P [.tmp 4, .tmp 5] (.tup [.p, I]) R)) .normal) (thenQ (fun env => getE env part_Open_l3 fun (x : Addr × Unit) => part_Open_2 R x.1) (topQ P [.tmp 4, .tmp 5] (.tup [.p, I]) R))))) .normal) (blockQ 1 ((thenQ (fun env => getE env part_Open_l5 fun (s : Int × Unit) => getE env part_Open_l6 (c1 s)) (blockQ 0 ((thenQ (fun env => getE env part_Open_l3 fun (x : Addr × Unit) => part_Open_2 R x.1) (topQ P [.tmp 4, .tmp 5] (.tup [.p, I]) R)) .normal) (thenQ (fun env => getE env part_Open_l3 fun (x : Addr × Unit) => part_Open_2 R x.1) (topQ P [.tmp 4, .tmp 5] (.tup [.p, I]) R)))) .normal) (thenQ (fun env => getE env part_Open_l5 fun (s : Int × Unit) => getE env part_Open_l6 (c1 s)) (blockQ 0 ((thenQ (fun env => getE env part_Open_l3 fun (x : Addr × Unit) => part_Open_2 R x.1) (topQ P [.tmp 4, .tmp 5] (.tup [.p, I]) R)) .normal) (thenQ (fun env => getE env part_Open_l3 fun (x : Addr × Unit) => part_Open_2 R x.1) (topQ P [.tmp 4, .tmp 5] (.tup [.p, I]) R))))))) (mkE2 76 part_Open_l9 part_Open_l10 (at_9, v45, ()) (l_6, p_8, v43, v44, ())) w :=
  pc_end (T := part_Open_9 c2 c1 R at_9 v45 l_6 p_8 v43 v44 w) hmix (by kernel_rfl) h
theorem part_Open_8_ok (c1 : (Int × Unit) → (Option Addr × Addr × Unit) → World → Prop) (R : (Option Addr × Int × Unit) → World → Prop) (at_9 : Int) (v45 : Int) (l_6 : Option Addr) (p_8 : Addr) (v43 : Sl) (v44 : Int) (w : World) (h : part_Open_8 c1 R at_9 v45 l_6 p_8 v43 v44 w) : WPC P 76 [] (Code.at part_Open_B [.snd, .snd, .snd, .snd, .fst, .snd, .blk, .blk, .snd, .blk, .snd, .snd, .snd]) (blockQ 1 ((thenQ (fun env => getE env part_Open_l5 fun (s : Int × Unit) => getE env part_Open_l6 (c1 s)) (blockQ 0 ((thenQ (fun env => getE env part_Open_l3 fun (x : Addr × Unit) => part_Open_2 R x.1) (topQ P [.tmp 4, .tmp 5] (.tup [.p, I]) R)) .normal) (thenQ (fun env => getE env part_Open_l3 fun (x : Addr × Unit) => part_Open_2 R x.1) (topQ P [.tmp 4, .tmp 5] (.tup [.p, I]) R)))) .normal) (thenQ (fun env => getE env part_Open_l5 fun (s : Int × Unit) => getE env part_Open_l6 (c1 s)) (blockQ 0 ((thenQ (fun env => getE env part_Open_l3 fun (x : Addr × Unit) => part_Open_2 R x.1) (topQ P [.tmp 4, .tmp 5] (.tup [.p, I]) R)) .normal) (thenQ (fun env => getE env part_Open_l3 fun (x : Addr × Unit) => part_Open_2 R x.1) (topQ P [.tmp 4, .tmp 5] (.tup [.p, I]) R))))) (mkE2 76 part_Open_l9 part_Open_l10 (at_9, v45, ()) (l_6, p_8, v43, v44, ())) w :=
  pc_loopE (l := part_Open_l9) (l' := part_Open_l10) (body := fun (c2 : (Int × Int × Unit) → (Option Addr × Addr × Sl × Int × Unit) → World → Prop) (s : Int × Int × Unit) => part_Open_9 c2 c1 R s.1 s.2.1 l_6 p_8 v43 v44) (id := 2) (b := (Code.at part_Open_B [.snd, .snd, .snd, .snd, .fst, .snd, .blk, .blk, .snd, .blk, .snd, .snd, .snd, .blk, .blk])) (by kernel_rfl) (fun c2 s w h => part_Open_9_ok c2 c1 R s.1 s.2.1 l_6 p_8 v43 v44 w h) h
theorem part_Open_7_ok (c1 : (Int × Unit) → (Option Addr × Addr × Unit) → World → Prop) (R : (Option Addr × Int × Unit) → World → Prop) (l_6 : Option Addr) (p_8 : Addr) (at_9 : Int) (w : World) (h : part_Open_7 c1 R l_6 p_8 at_9 w) : WPC P 76 [] (Code.at part_Open_B [.snd, .snd, .snd, .snd, .fst, .snd, .blk, .blk, .snd, .blk]) (blockQ 1 ((thenQ (fun env => getE env part_Open_l5 fun (s : Int × Unit) => getE env part_Open_l6 (c1 s)) (blockQ 0 ((thenQ (fun env => getE env part_Open_l3 fun (x : Addr × Unit) => part_Open_2 R x.1) (topQ P [.tmp 4, .tmp 5] (.tup [.p, I]) R)) .normal) (thenQ (fun env => getE env part_Open_l3 fun (x : Addr × Unit) => part_Open_2 R x.1) (topQ P [.tmp 4, .tmp 5] (.tup [.p, I]) R)))) .normal) (thenQ (fun env => getE env part_Open_l5 fun (s : Int × Unit) => getE env part_Open_l6 (c1 s)) (blockQ 0 ((thenQ (fun env => getE env part_Open_l3 fun (x : Addr × Unit) => part_Open_2 R x.1) (topQ P [.tmp 4, .tmp 5] (.tup [.p, I]) R)) .normal) (thenQ (fun env => getE env part_Open_l3 fun (x : Addr × Unit) => part_Open_2 R x.1) (topQ P [.tmp 4, .tmp 5] (.tup [.p, I]) R))))) (mkE 76 part_Open_l8 (l_6, p_8, at_9, ())) w :=
  pc_cut2 (T := part_Open_7 c1 R l_6 p_8 at_9 w) (l := part_Open_l9) (l' := part_Open_l10) (F := fun (x : Int × Int × Unit) (y : Option Addr × Addr × Sl × Int × Unit) => part_Open_8 c1 R x.1 x.2.1 y.1 y.2.1 y.2.2.1 y.2.2.2.1) hmix 3 (mkE_len ..) (by kernel_rfl) (fun x y w h => part_Open_8_ok c1 R x.1 x.2.1 y.1 y.2.1 y.2.2.1 y.2.2.2.1 w h) (by kernel_rfl) h
theorem part_Open_6_ok (c1 : (Int × Unit) → (Option Addr × Addr × Unit) → World → Prop) (R : (Option Addr × Int × Unit) → World → Prop) (l_6 : Option Addr) (p_8 : Addr) (at_9 : Int) (w : World) (h : part_Open_6 c1 R l_6 p_8 at_9 w) : WPC P 76 [] (Code.at part_Open_B [.snd, .snd, .snd, .snd, .fst, .snd, .blk, .blk, .snd]) (thenQ (fun env => getE env part_Open_l5 fun (s : Int × Unit) => getE env part_Open_l6 (c1 s)) (blockQ 0 ((thenQ (fun env => getE env part_Open_l3 fun (x : Addr × Unit) => part_Open_2 R x.1) (topQ P [.tmp 4, .tmp 5] (.tup [.p, I]) R)) .normal) (thenQ (fun env => getE env part_Open_l3 fun (x : Addr × Unit) => part_Open_2 R x.1) (topQ P [.tmp 4, .tmp 5] (.tup [.p, I]) R)))) (mkE 76 part_Open_l7 (l_6, p_8, at_9, ())) w :=
  pc_block (c := (Code.at part_Open_B [.snd, .snd, .snd, .snd, .fst, .snd, .blk, .blk, .snd, .blk])) (id := 1) (by kernel_rfl) (pc_cut (T := (part_Open_7 c1 R l_6 p_8 at_9) w) (l := part_Open_l8) (F := fun (x : Option Addr × Addr × Int × Unit) => part_Open_7 c1 R x.1 x.2.1 x.2.2.1) (c := (Code.at part_Open_B [.snd, .snd, .snd, .snd, .fst, .snd, .blk, .blk, .snd, .blk])) hmix 0 (mkE_len ..) (by kernel_rfl) (fun x w h => part_Open_7_ok c1 R x.1 x.2.1 x.2.2.1 w h) (by kernel_rfl) h)
theorem part_Open_5_ok (c1 : (Int × Unit) → (Option Addr × Addr × Unit) → World → Prop) (R : (Option Addr × Int × Unit) → World → Prop) (at_9 : Int) (l_6 : Option Addr) (p_8 : Addr) (w : World) (h : part_Open_5 c1 R at_9 l_6 p_8 w) : WPC P 76 [] (Code.at part_Open_B [.snd, .snd, .snd, .snd, .fst, .snd, .blk, .blk]) (thenQ (fun env => getE env part_Open_l5 fun (s : Int × Unit) => getE env part_Open_l6 (c1 s)) (blockQ 0 ((thenQ (fun env => getE env part_Open_l3 fun (x : Addr × Unit) => part_Open_2 R x.1) (topQ P [.tmp 4, .tmp 5] (.tup [.p, I]) R)) .normal) (thenQ (fun env => getE env part_Open_l3 fun (x : Addr × Unit) => part_Open_2 R x.1) (topQ P [.tmp 4, .tmp 5] (.tup [.p, I]) R)))) (mkE2 76 part_Open_l5 part_Open_l6 (at_9, ()) (l_6, p_8, ())) w :=
  pc_cut (T := part_Open_5 c1 R at_9 l_6 p_8 w) (l := part_Open_l7) (F := fun (x : Option Addr × Addr × Int × Unit) => part_Open_6 c1 R x.1 x.2.1 x.2.2.1) hmix 1 (mkE2_len ..) (by kernel_rfl) (fun x w h => part_Open_6_ok c1 R x.1 x.2.1 x.2.2.1 w h) (by kernel_rfl) h
theorem part_Open_4_ok (R : (Option Addr × Int × Unit) → World → Prop) (at_9 : Int) (l_6 : Option Addr) (p_8 : Addr) (w : World) (h : part_Open_4 R at_9 l_6 p_8 w) : WPC P 76 [] (Code.at part_Open_B [.snd, .snd, .snd, .snd, .fst, .snd]) (thenQ (fun env => getE env part_Open_l3 fun (x : Addr × Unit) => part_Open_2 R x.1) (topQ P [.tmp 4, .tmp 5] (.tup [.p, I]) R)) (mkE2 76 part_Open_l5 part_Open_l6 (at_9, ()) (l_6, p_8, ())) w :=
  pc_loopE (l := part_Open_l5) (l' := part_Open_l6) (body := fun (c1 : (Int × Unit) → (Option Addr × Addr × Unit) → World → Prop) (s : Int × Unit) => part_Open_5 c1 R s.1 l_6 p_8) (id := 0) (b := (Code.at part_Open_B [.snd, .snd, .snd, .snd, .fst, .snd, .blk, .blk])) (by kernel_rfl) (fun c1 s w h => part_Open_5_ok c1 R s.1 l_6 p_8 w h) h
theorem part_Open_3_ok (R : (Option Addr × Int × Unit) → World → Prop) (l_6 : Option Addr) (p_8 : Addr) (w : World) (h : part_Open_3 R l_6 p_8 w) : WPC P 76 [] (Code.at part_Open_B [.snd, .snd, .snd, .snd, .fst]) (thenQ (fun env => getE env part_Open_l3 fun (x : Addr × Unit) => part_Open_2 R x.1) (topQ P [.tmp 4, .tmp 5] (.tup [.p, I]) R)) (mkE 76 part_Open_l4 (l_6, p_8, ())) w :=
  pc_cut2 (T := part_Open_3 R l_6 p_8 w) (l := part_Open_l5) (l' := part_Open_l6) (F := fun (x : Int × Unit) (y : Option Addr × Addr × Unit) => part_Open_4 R x.1 y.1 y.2.1) hmix 1 (mkE_len ..) (by kernel_rfl) (fun x y w h => part_Open_4_ok R x.1 y.1 y.2.1 w h) (by kernel_rfl) h
theorem part_Open_1_ok (R : (Option Addr × Int × Unit) → World → Prop) (l_6 : Option Addr) (p_8 : Addr) (w : World) (h : part_Open_1 R l_6 p_8 w) : WPC P 76 [] (Code.at part_Open_B [.snd, .snd, .snd, .snd]) (topQ P [.tmp 4, .tmp 5] (.tup [.p, I]) R) (mkE 76 part_Open_l2 (l_6, p_8, ())) w :=
  pc_seq (l := part_Open_l3) (F := fun (x : Addr × Unit) => part_Open_2 R x.1) (a := (Code.at part_Open_B [.snd, .snd, .snd, .snd, .fst])) (b := (Code.at part_Open_B [.snd, .snd, .snd, .snd, .snd])) (by kernel_rfl) (pc_cut (T := (part_Open_3 R l_6 p_8) w) (l := part_Open_l4) (F := fun (x : Option Addr × Addr × Unit) => part_Open_3 R x.1 x.2.1) (c := (Code.at part_Open_B [.snd, .snd, .snd, .snd, .fst])) hmix 0 (mkE_len ..) (by kernel_rfl) (fun x w h => part_Open_3_ok R x.1 x.2.1 w h) (by kernel_rfl) h) (fun x w h => part_Open_2_ok R x.1 w h)
theorem part_Open_0_ok (R : (Option Addr × Int × Unit) → World → Prop) (d_0 : Option Addr) (name_1 : Bs) (w : World) (h : part_Open_0 R d_0 name_1 w) : WPC P 76 [] (Code.at part_Open_B []) (topQ P [.tmp 4, .tmp 5] (.tup [.p, I]) R) (mkE 76 part_Open_l1 (d_0, name_1, ())) w :=
  pc_cut (T := part_Open_0 R d_0 name_1 w) (l := part_Open_l2) (F := fun (x : Option Addr × Addr × Unit) => part_Open_1 R x.1 x.2.1) hmix 4 (mkE_len ..) (by kernel_rfl) (fun x w h => part_Open_1_ok R x.1 x.2.1 w h) (by kernel_rfl) h
theorem part_Open_call (R : (Option Addr × Int × Unit) → World → Prop) (d_0 : Option Addr) (name_1 : Bs) (w : World) (h : part_Open_0 R d_0 name_1 w) : mcall P n_part_Open [(.pointer d_0), (.string ⟨name_1.toArray⟩)] (.tup [.p, I]) R w :=
  pc_top (T := (part_Open_0 R d_0 name_1) w) (l := part_Open_l1) (F := fun (x : Option Addr × Bs × Unit) => part_Open_0 R x.1 x.2.1) (n := 76) (c := part_Open_B) Tryz.func30 rfl (by kernel_rfl) (by kernel_rfl) (by kernel_rfl) (fun x w h => part_Open_0_ok R x.1 x.2.1 w h) (by kernel_rfl) h
/- headgate change.Diff -/
noncomputable abbrev change_Diff_B : Code := (Tryz.f31.body).getD .skip
abbrev change_Diff_l1 : Slots := [(0, k_api_Batch), (1, k_api_Batch)]
abbrev change_Diff_l2 : Slots := [(2, .ad), (3, .ad)]
abbrev change_Diff_l3 : Slots := [(2, .ad), (3, .ad)]
abbrev change_Diff_l4 : Slots := [(2, .ad), (3, .ad), (5, .sl)]
abbrev change_Diff_l5 : Slots := [(5, .sl), (6, .sl), (7, .sl)]
abbrev change_Diff_l6 : Slots := []
abbrev change_Diff_l7 : Slots := [(5, .sl)]
def change_Diff_5 (R : Sl → World → Prop) (l_5 : Sl) : World → Prop :=
 R l_5
def change_Diff_6 (c1 : (Sl × Sl × Sl × Unit) → Unit → World → Prop) (R : Sl → World → Prop) (l_5 : Sl) (a_6 : Sl) (b_7 : Sl) : World → Prop :=
 mif ((a_6.len : Int) == 0)
 (mif ((b_7.len : Int) == 0)
 (change_Diff_5 R l_5)
 (mdraw <|
 mif ((b_7.len : Int) == 0)
 (ixa P t_sl_api_Cell (Sl.v a_6) 0 fun (x29 : Addr) =>
 ld P t_api_Cell x29 k_api_Cell fun (x30 : T_api_Cell) =>
 mcall P n_change_told [(KV k_api_Cell x30), (.int .i64 2)] k_api_Record fun (x31 : T_api_Record) =>
 bsl P t_sl_api_Record k_api_Record [x31] fun x32 =>
 app P #[t_sl_api_Record, t_sl_api_Record] t_sl_api_Record (Sl.v l_5) (Sl.v x32) fun (x33 : Sl) =>
 slc P t_sl_api_Cell a_6 (some 1) none fun (x34 : Sl) =>
 c1 (x33, x34, b_7, ()) (()))
 (mif (decide ((a_6.len : Int) > 0))
 (ixa P t_sl_api_Cell (Sl.v a_6) 0 fun (x35 : Addr) =>
 ld P t_api_Cell x35 k_api_Cell fun (x36 : T_api_Cell) =>
 ixa P t_sl_api_Cell (Sl.v b_7) 0 fun (x37 : Addr) =>
 ld P t_api_Cell x37 k_api_Cell fun (x38 : T_api_Cell) =>
 mcall P n_change_ahead [(KV k_api_Cell x36), (KV k_api_Cell x38)] .b fun (x39 : Bool) =>
 mif x39
 (ixa P t_sl_api_Cell (Sl.v a_6) 0 fun (x40 : Addr) =>
 ld P t_api_Cell x40 k_api_Cell fun (x41 : T_api_Cell) =>
 mcall P n_change_told [(KV k_api_Cell x41), (.int .i64 2)] k_api_Record fun (x42 : T_api_Record) =>
 bsl P t_sl_api_Record k_api_Record [x42] fun x43 =>
 app P #[t_sl_api_Record, t_sl_api_Record] t_sl_api_Record (Sl.v l_5) (Sl.v x43) fun (x44 : Sl) =>
 slc P t_sl_api_Cell a_6 (some 1) none fun (x45 : Sl) =>
 c1 (x44, x45, b_7, ()) (()))
 (mdraw <|
 mif ((a_6.len : Int) == 0)
 (ixa P t_sl_api_Cell (Sl.v b_7) 0 fun (x46 : Addr) =>
 ld P t_api_Cell x46 k_api_Cell fun (x47 : T_api_Cell) =>
 mcall P n_change_told [(KV k_api_Cell x47), (.int .i64 1)] k_api_Record fun (x48 : T_api_Record) =>
 bsl P t_sl_api_Record k_api_Record [x48] fun x49 =>
 app P #[t_sl_api_Record, t_sl_api_Record] t_sl_api_Record (Sl.v l_5) (Sl.v x49) fun (x50 : Sl) =>
 slc P t_sl_api_Cell b_7 (some 1) none fun (x51 : Sl) =>
 c1 (x50, a_6, x51, ()) (()))
 (ixa P t_sl_api_Cell (Sl.v b_7) 0 fun (x52 : Addr) =>
 ld P t_api_Cell x52 k_api_Cell fun (x53 : T_api_Cell) =>
 ixa P t_sl_api_Cell (Sl.v a_6) 0 fun (x54 : Addr) =>
 ld P t_api_Cell x54 k_api_Cell fun (x55 : T_api_Cell) =>
 mcall P n_change_ahead [(KV k_api_Cell x53), (KV k_api_Cell x55)] .b fun (x56 : Bool) =>
 mif x56
 (ixa P t_sl_api_Cell (Sl.v b_7) 0 fun (x57 : Addr) =>
 ld P t_api_Cell x57 k_api_Cell fun (x58 : T_api_Cell) =>
 mcall P n_change_told [(KV k_api_Cell x58), (.int .i64 1)] k_api_Record fun (x59 : T_api_Record) =>
 bsl P t_sl_api_Record k_api_Record [x59] fun x60 =>
 app P #[t_sl_api_Record, t_sl_api_Record] t_sl_api_Record (Sl.v l_5) (Sl.v x60) fun (x61 : Sl) =>
 slc P t_sl_api_Cell b_7 (some 1) none fun (x62 : Sl) =>
 c1 (x61, a_6, x62, ()) (()))
 (mdraw <|
 ixa P t_sl_api_Cell (Sl.v a_6) 0 fun (x63 : Addr) =>
 ld P t_api_Cell x63 k_api_Cell fun (x64 : T_api_Cell) =>
 ixa P t_sl_api_Cell (Sl.v b_7) 0 fun (x65 : Addr) =>
 ld P t_api_Cell x65 k_api_Cell fun (x66 : T_api_Cell) =>
 meq P .neq t_api_Cell (KV k_api_Cell x64) (KV k_api_Cell x66) fun (x67 : Bool) =>
 mif x67
 (ixa P t_sl_api_Cell (Sl.v b_7) 0 fun (x68 : Addr) =>
 ld P t_api_Cell x68 k_api_Cell fun (x69 : T_api_Cell) =>
 mcall P n_change_told [(KV k_api_Cell x69), (.int .i64 1)] k_api_Record fun (x70 : T_api_Record) =>
 bsl P t_sl_api_Record k_api_Record [x70] fun x71 =>
 app P #[t_sl_api_Record, t_sl_api_Record] t_sl_api_Record (Sl.v l_5) (Sl.v x71) fun (x72 : Sl) =>
 mdraw <|
 slc P t_sl_api_Cell a_6 (some 1) none fun (x73 : Sl) =>
 slc P t_sl_api_Cell b_7 (some 1) none fun (x74 : Sl) =>
 mst P (Instr.sliceAt t_sl_api_Cell (.slice b_7.a b_7.len b_7.cap) (some (.int .i64 1)) none none) (.slice x74.a x74.len x74.cap) <|
 c1 (x72, x73, x74, ()) (()))
 (mdraw <|
 slc P t_sl_api_Cell a_6 (some 1) none fun (x75 : Sl) =>
 slc P t_sl_api_Cell b_7 (some 1) none fun (x76 : Sl) =>
 mst P (Instr.sliceAt t_sl_api_Cell (.slice b_7.a b_7.len b_7.cap) (some (.int .i64 1)) none none) (.slice x76.a x76.len x76.cap) <|
 c1 (l_5, x75, x76, ()) (()))))))
 (mdraw <|
 mif ((a_6.len : Int) == 0)
 (ixa P t_sl_api_Cell (Sl.v b_7) 0 fun (x77 : Addr) =>
 ld P t_api_Cell x77 k_api_Cell fun (x78 : T_api_Cell) =>
 mcall P n_change_told [(KV k_api_Cell x78), (.int .i64 1)] k_api_Record fun (x79 : T_api_Record) =>
 bsl P t_sl_api_Record k_api_Record [x79] fun x80 =>
 app P #[t_sl_api_Record, t_sl_api_Record] t_sl_api_Record (Sl.v l_5) (Sl.v x80) fun (x81 : Sl) =>
 slc P t_sl_api_Cell b_7 (some 1) none fun (x82 : Sl) =>
 c1 (x81, a_6, x82, ()) (()))
 (ixa P t_sl_api_Cell (Sl.v b_7) 0 fun (x83 : Addr) =>
 ld P t_api_Cell x83 k_api_Cell fun (x84 : T_api_Cell) =>
 ixa P t_sl_api_Cell (Sl.v a_6) 0 fun (x85 : Addr) =>
 ld P t_api_Cell x85 k_api_Cell fun (x86 : T_api_Cell) =>
 mcall P n_change_ahead [(KV k_api_Cell x84), (KV k_api_Cell x86)] .b fun (x87 : Bool) =>
 mif x87
 (ixa P t_sl_api_Cell (Sl.v b_7) 0 fun (x88 : Addr) =>
 ld P t_api_Cell x88 k_api_Cell fun (x89 : T_api_Cell) =>
 mcall P n_change_told [(KV k_api_Cell x89), (.int .i64 1)] k_api_Record fun (x90 : T_api_Record) =>
 bsl P t_sl_api_Record k_api_Record [x90] fun x91 =>
 app P #[t_sl_api_Record, t_sl_api_Record] t_sl_api_Record (Sl.v l_5) (Sl.v x91) fun (x92 : Sl) =>
 slc P t_sl_api_Cell b_7 (some 1) none fun (x93 : Sl) =>
 c1 (x92, a_6, x93, ()) (()))
 (mdraw <|
 ixa P t_sl_api_Cell (Sl.v a_6) 0 fun (x94 : Addr) =>
 ld P t_api_Cell x94 k_api_Cell fun (x95 : T_api_Cell) =>
 ixa P t_sl_api_Cell (Sl.v b_7) 0 fun (x96 : Addr) =>
 ld P t_api_Cell x96 k_api_Cell fun (x97 : T_api_Cell) =>
 meq P .neq t_api_Cell (KV k_api_Cell x95) (KV k_api_Cell x97) fun (x98 : Bool) =>
 mif x98
 (ixa P t_sl_api_Cell (Sl.v b_7) 0 fun (x99 : Addr) =>
 ld P t_api_Cell x99 k_api_Cell fun (x100 : T_api_Cell) =>
 mcall P n_change_told [(KV k_api_Cell x100), (.int .i64 1)] k_api_Record fun (x101 : T_api_Record) =>
 bsl P t_sl_api_Record k_api_Record [x101] fun x102 =>
 app P #[t_sl_api_Record, t_sl_api_Record] t_sl_api_Record (Sl.v l_5) (Sl.v x102) fun (x103 : Sl) =>
 mdraw <|
 slc P t_sl_api_Cell a_6 (some 1) none fun (x104 : Sl) =>
 slc P t_sl_api_Cell b_7 (some 1) none fun (x105 : Sl) =>
 mst P (Instr.sliceAt t_sl_api_Cell (.slice b_7.a b_7.len b_7.cap) (some (.int .i64 1)) none none) (.slice x105.a x105.len x105.cap) <|
 c1 (x103, x104, x105, ()) (()))
 (mdraw <|
 slc P t_sl_api_Cell a_6 (some 1) none fun (x106 : Sl) =>
 slc P t_sl_api_Cell b_7 (some 1) none fun (x107 : Sl) =>
 mst P (Instr.sliceAt t_sl_api_Cell (.slice b_7.a b_7.len b_7.cap) (some (.int .i64 1)) none none) (.slice x107.a x107.len x107.cap) <|
 c1 (l_5, x106, x107, ()) (()))))))))
 (mdraw <|
 mif ((b_7.len : Int) == 0)
 (ixa P t_sl_api_Cell (Sl.v a_6) 0 fun (x108 : Addr) =>
 ld P t_api_Cell x108 k_api_Cell fun (x109 : T_api_Cell) =>
 mcall P n_change_told [(KV k_api_Cell x109), (.int .i64 2)] k_api_Record fun (x110 : T_api_Record) =>
 bsl P t_sl_api_Record k_api_Record [x110] fun x111 =>
 app P #[t_sl_api_Record, t_sl_api_Record] t_sl_api_Record (Sl.v l_5) (Sl.v x111) fun (x112 : Sl) =>
 slc P t_sl_api_Cell a_6 (some 1) none fun (x113 : Sl) =>
 c1 (x112, x113, b_7, ()) (()))
 (mif (decide ((a_6.len : Int) > 0))
 (ixa P t_sl_api_Cell (Sl.v a_6) 0 fun (x114 : Addr) =>
 ld P t_api_Cell x114 k_api_Cell fun (x115 : T_api_Cell) =>
 ixa P t_sl_api_Cell (Sl.v b_7) 0 fun (x116 : Addr) =>
 ld P t_api_Cell x116 k_api_Cell fun (x117 : T_api_Cell) =>
 mcall P n_change_ahead [(KV k_api_Cell x115), (KV k_api_Cell x117)] .b fun (x118 : Bool) =>
 mif x118
 (ixa P t_sl_api_Cell (Sl.v a_6) 0 fun (x119 : Addr) =>
 ld P t_api_Cell x119 k_api_Cell fun (x120 : T_api_Cell) =>
 mcall P n_change_told [(KV k_api_Cell x120), (.int .i64 2)] k_api_Record fun (x121 : T_api_Record) =>
 bsl P t_sl_api_Record k_api_Record [x121] fun x122 =>
 app P #[t_sl_api_Record, t_sl_api_Record] t_sl_api_Record (Sl.v l_5) (Sl.v x122) fun (x123 : Sl) =>
 slc P t_sl_api_Cell a_6 (some 1) none fun (x124 : Sl) =>
 c1 (x123, x124, b_7, ()) (()))
 (mdraw <|
 mif ((a_6.len : Int) == 0)
 (ixa P t_sl_api_Cell (Sl.v b_7) 0 fun (x125 : Addr) =>
 ld P t_api_Cell x125 k_api_Cell fun (x126 : T_api_Cell) =>
 mcall P n_change_told [(KV k_api_Cell x126), (.int .i64 1)] k_api_Record fun (x127 : T_api_Record) =>
 bsl P t_sl_api_Record k_api_Record [x127] fun x128 =>
 app P #[t_sl_api_Record, t_sl_api_Record] t_sl_api_Record (Sl.v l_5) (Sl.v x128) fun (x129 : Sl) =>
 slc P t_sl_api_Cell b_7 (some 1) none fun (x130 : Sl) =>
 c1 (x129, a_6, x130, ()) (()))
 (ixa P t_sl_api_Cell (Sl.v b_7) 0 fun (x131 : Addr) =>
 ld P t_api_Cell x131 k_api_Cell fun (x132 : T_api_Cell) =>
 ixa P t_sl_api_Cell (Sl.v a_6) 0 fun (x133 : Addr) =>
 ld P t_api_Cell x133 k_api_Cell fun (x134 : T_api_Cell) =>
 mcall P n_change_ahead [(KV k_api_Cell x132), (KV k_api_Cell x134)] .b fun (x135 : Bool) =>
 mif x135
 (ixa P t_sl_api_Cell (Sl.v b_7) 0 fun (x136 : Addr) =>
 ld P t_api_Cell x136 k_api_Cell fun (x137 : T_api_Cell) =>
 mcall P n_change_told [(KV k_api_Cell x137), (.int .i64 1)] k_api_Record fun (x138 : T_api_Record) =>
 bsl P t_sl_api_Record k_api_Record [x138] fun x139 =>
 app P #[t_sl_api_Record, t_sl_api_Record] t_sl_api_Record (Sl.v l_5) (Sl.v x139) fun (x140 : Sl) =>
 slc P t_sl_api_Cell b_7 (some 1) none fun (x141 : Sl) =>
 c1 (x140, a_6, x141, ()) (()))
 (mdraw <|
 ixa P t_sl_api_Cell (Sl.v a_6) 0 fun (x142 : Addr) =>
 ld P t_api_Cell x142 k_api_Cell fun (x143 : T_api_Cell) =>
 ixa P t_sl_api_Cell (Sl.v b_7) 0 fun (x144 : Addr) =>
 ld P t_api_Cell x144 k_api_Cell fun (x145 : T_api_Cell) =>
 meq P .neq t_api_Cell (KV k_api_Cell x143) (KV k_api_Cell x145) fun (x146 : Bool) =>
 mif x146
 (ixa P t_sl_api_Cell (Sl.v b_7) 0 fun (x147 : Addr) =>
 ld P t_api_Cell x147 k_api_Cell fun (x148 : T_api_Cell) =>
 mcall P n_change_told [(KV k_api_Cell x148), (.int .i64 1)] k_api_Record fun (x149 : T_api_Record) =>
 bsl P t_sl_api_Record k_api_Record [x149] fun x150 =>
 app P #[t_sl_api_Record, t_sl_api_Record] t_sl_api_Record (Sl.v l_5) (Sl.v x150) fun (x151 : Sl) =>
 mdraw <|
 slc P t_sl_api_Cell a_6 (some 1) none fun (x152 : Sl) =>
 slc P t_sl_api_Cell b_7 (some 1) none fun (x153 : Sl) =>
 mst P (Instr.sliceAt t_sl_api_Cell (.slice b_7.a b_7.len b_7.cap) (some (.int .i64 1)) none none) (.slice x153.a x153.len x153.cap) <|
 c1 (x151, x152, x153, ()) (()))
 (mdraw <|
 slc P t_sl_api_Cell a_6 (some 1) none fun (x154 : Sl) =>
 slc P t_sl_api_Cell b_7 (some 1) none fun (x155 : Sl) =>
 mst P (Instr.sliceAt t_sl_api_Cell (.slice b_7.a b_7.len b_7.cap) (some (.int .i64 1)) none none) (.slice x155.a x155.len x155.cap) <|
 c1 (l_5, x154, x155, ()) (()))))))
 (mdraw <|
 mif ((a_6.len : Int) == 0)
 (ixa P t_sl_api_Cell (Sl.v b_7) 0 fun (x156 : Addr) =>
 ld P t_api_Cell x156 k_api_Cell fun (x157 : T_api_Cell) =>
 mcall P n_change_told [(KV k_api_Cell x157), (.int .i64 1)] k_api_Record fun (x158 : T_api_Record) =>
 bsl P t_sl_api_Record k_api_Record [x158] fun x159 =>
 app P #[t_sl_api_Record, t_sl_api_Record] t_sl_api_Record (Sl.v l_5) (Sl.v x159) fun (x160 : Sl) =>
 slc P t_sl_api_Cell b_7 (some 1) none fun (x161 : Sl) =>
 c1 (x160, a_6, x161, ()) (()))
 (ixa P t_sl_api_Cell (Sl.v b_7) 0 fun (x162 : Addr) =>
 ld P t_api_Cell x162 k_api_Cell fun (x163 : T_api_Cell) =>
 ixa P t_sl_api_Cell (Sl.v a_6) 0 fun (x164 : Addr) =>
 ld P t_api_Cell x164 k_api_Cell fun (x165 : T_api_Cell) =>
 mcall P n_change_ahead [(KV k_api_Cell x163), (KV k_api_Cell x165)] .b fun (x166 : Bool) =>
 mif x166
 (ixa P t_sl_api_Cell (Sl.v b_7) 0 fun (x167 : Addr) =>
 ld P t_api_Cell x167 k_api_Cell fun (x168 : T_api_Cell) =>
 mcall P n_change_told [(KV k_api_Cell x168), (.int .i64 1)] k_api_Record fun (x169 : T_api_Record) =>
 bsl P t_sl_api_Record k_api_Record [x169] fun x170 =>
 app P #[t_sl_api_Record, t_sl_api_Record] t_sl_api_Record (Sl.v l_5) (Sl.v x170) fun (x171 : Sl) =>
 slc P t_sl_api_Cell b_7 (some 1) none fun (x172 : Sl) =>
 c1 (x171, a_6, x172, ()) (()))
 (mdraw <|
 ixa P t_sl_api_Cell (Sl.v a_6) 0 fun (x173 : Addr) =>
 ld P t_api_Cell x173 k_api_Cell fun (x174 : T_api_Cell) =>
 ixa P t_sl_api_Cell (Sl.v b_7) 0 fun (x175 : Addr) =>
 ld P t_api_Cell x175 k_api_Cell fun (x176 : T_api_Cell) =>
 meq P .neq t_api_Cell (KV k_api_Cell x174) (KV k_api_Cell x176) fun (x177 : Bool) =>
 mif x177
 (ixa P t_sl_api_Cell (Sl.v b_7) 0 fun (x178 : Addr) =>
 ld P t_api_Cell x178 k_api_Cell fun (x179 : T_api_Cell) =>
 mcall P n_change_told [(KV k_api_Cell x179), (.int .i64 1)] k_api_Record fun (x180 : T_api_Record) =>
 bsl P t_sl_api_Record k_api_Record [x180] fun x181 =>
 app P #[t_sl_api_Record, t_sl_api_Record] t_sl_api_Record (Sl.v l_5) (Sl.v x181) fun (x182 : Sl) =>
 mdraw <|
 slc P t_sl_api_Cell a_6 (some 1) none fun (x183 : Sl) =>
 slc P t_sl_api_Cell b_7 (some 1) none fun (x184 : Sl) =>
 mst P (Instr.sliceAt t_sl_api_Cell (.slice b_7.a b_7.len b_7.cap) (some (.int .i64 1)) none none) (.slice x184.a x184.len x184.cap) <|
 c1 (x182, x183, x184, ()) (()))
 (mdraw <|
 slc P t_sl_api_Cell a_6 (some 1) none fun (x185 : Sl) =>
 slc P t_sl_api_Cell b_7 (some 1) none fun (x186 : Sl) =>
 mst P (Instr.sliceAt t_sl_api_Cell (.slice b_7.a b_7.len b_7.cap) (some (.int .i64 1)) none none) (.slice x186.a x186.len x186.cap) <|
 c1 (l_5, x185, x186, ()) (())))))))
def change_Diff_4 (R : Sl → World → Prop) (l_5 : Sl) (a_6 : Sl) (b_7 : Sl) : World → Prop :=
 W.Loop (()) (fun (c1 : (Sl × Sl × Sl × Unit) → Unit → World → Prop) (s : Sl × Sl × Sl × Unit) => change_Diff_6 c1 R s.1 s.2.1 s.2.2.1) (l_5, a_6, b_7, ())
def change_Diff_3 (R : Sl → World → Prop) (old_2 : Addr) (now_3 : Addr) (l_5 : Sl) : World → Prop :=
 mdraw <|
 ld P t_sl_api_Cell (ad old_2 4) .sl fun (x27 : Sl) =>
 ld P t_sl_api_Cell (ad now_3 4) .sl fun (x28 : Sl) =>
 change_Diff_4 R l_5 x27 x28
def change_Diff_2 (R : Sl → World → Prop) (old_2 : Addr) (now_3 : Addr) : World → Prop :=
 ld P t_int old_2 I fun (x3 : Int) =>
 ld P t_int now_3 I fun (x4 : Int) =>
 mif (x3 != x4)
 (ld P t_api_State now_3 k_api_Batch fun (x5 : T_api_Batch) =>
 mcall P n_change_head [(KV k_api_Batch x5)] k_api_Record fun (x6 : T_api_Record) =>
 bsl P t_sl_api_Record k_api_Record [x6] fun x7 =>
 app P #[t_sl_api_Record, t_sl_api_Record] t_sl_api_Record (Sl.v ⟨none, 0, 0⟩) (Sl.v x7) fun (x8 : Sl) =>
 change_Diff_3 R old_2 now_3 x8)
 (ld P t_int (ad old_2 1) I fun (x9 : Int) =>
 ld P t_int (ad now_3 1) I fun (x10 : Int) =>
 mif (x9 != x10)
 (ld P t_api_State now_3 k_api_Batch fun (x11 : T_api_Batch) =>
 mcall P n_change_head [(KV k_api_Batch x11)] k_api_Record fun (x12 : T_api_Record) =>
 bsl P t_sl_api_Record k_api_Record [x12] fun x13 =>
 app P #[t_sl_api_Record, t_sl_api_Record] t_sl_api_Record (Sl.v ⟨none, 0, 0⟩) (Sl.v x13) fun (x14 : Sl) =>
 change_Diff_3 R old_2 now_3 x14)
 (ld P t_int (ad old_2 2) I fun (x15 : Int) =>
 ld P t_int (ad now_3 2) I fun (x16 : Int) =>
 mif (x15 != x16)
 (ld P t_api_State now_3 k_api_Batch fun (x17 : T_api_Batch) =>
 mcall P n_change_head [(KV k_api_Batch x17)] k_api_Record fun (x18 : T_api_Record) =>
 bsl P t_sl_api_Record k_api_Record [x18] fun x19 =>
 app P #[t_sl_api_Record, t_sl_api_Record] t_sl_api_Record (Sl.v ⟨none, 0, 0⟩) (Sl.v x19) fun (x20 : Sl) =>
 change_Diff_3 R old_2 now_3 x20)
 (ld P t_int (ad old_2 3) I fun (x21 : Int) =>
 ld P t_int (ad now_3 3) I fun (x22 : Int) =>
 mif (x21 != x22)
 (ld P t_api_State now_3 k_api_Batch fun (x23 : T_api_Batch) =>
 mcall P n_change_head [(KV k_api_Batch x23)] k_api_Record fun (x24 : T_api_Record) =>
 bsl P t_sl_api_Record k_api_Record [x24] fun x25 =>
 app P #[t_sl_api_Record, t_sl_api_Record] t_sl_api_Record (Sl.v ⟨none, 0, 0⟩) (Sl.v x25) fun (x26 : Sl) =>
 change_Diff_3 R old_2 now_3 x26)
 (change_Diff_3 R old_2 now_3 ⟨none, 0, 0⟩))))
def change_Diff_1 (R : Sl → World → Prop) (old_2 : Addr) (now_3 : Addr) : World → Prop :=
 change_Diff_2 R old_2 now_3
def change_Diff_0 (R : Sl → World → Prop) (old_0 : T_api_Batch) (now_1 : T_api_Batch) : World → Prop :=
 bx P t_api_State k_api_Batch old_0 fun a1 =>
 bx P t_api_State k_api_Batch now_1 fun a2 =>
 change_Diff_1 R a1 a2
theorem change_Diff_5_ok (R : Sl → World → Prop) (l_5 : Sl) (w : World) (h : change_Diff_5 R l_5 w) : WPC P 120 [] (Code.at change_Diff_B [.snd, .blk, .snd, .snd, .snd, .snd, .snd]) (noGotoQ (topQ P [.tmp 4] .sl R)) (mkE 120 change_Diff_l7 (l_5, ())) w :=
  pc_end (T := change_Diff_5 R l_5 w) hmix (by kernel_rfl) h
theorem change_Diff_6_ok (c1 : (Sl × Sl × Sl × Unit) → Unit → World → Prop) (R : Sl → World → Prop) (l_5 : Sl) (a_6 : Sl) (b_7 : Sl) (w : World) (h : change_Diff_6 c1 R l_5 a_6 b_7 w) : WPC P 120 [] (Code.at change_Diff_B [.snd, .blk, .snd, .snd, .snd, .snd, .fst, .blk, .blk]) (thenQ (fun env => getE env change_Diff_l5 fun (s : Sl × Sl × Sl × Unit) => getE env change_Diff_l6 (c1 s)) (blockQ 0 (fun env => getE env change_Diff_l7 fun (x : Sl × Unit) => change_Diff_5 R x.1) (noGotoQ (topQ P [.tmp 4] .sl R)))) (mkE2 120 change_Diff_l5 change_Diff_l6 (l_5, a_6, b_7, ()) (())) w :=
  pc_end (T := change_Diff_6 c1 R l_5 a_6 b_7 w) hmix (by kernel_rfl) h
theorem change_Diff_4_ok (R : Sl → World → Prop) (l_5 : Sl) (a_6 : Sl) (b_7 : Sl) (w : World) (h : change_Diff_4 R l_5 a_6 b_7 w) : WPC P 120 [] (Code.at change_Diff_B [.snd, .blk, .snd, .snd, .snd, .snd]) (noGotoQ (topQ P [.tmp 4] .sl R)) (mkE2 120 change_Diff_l5 change_Diff_l6 (l_5, a_6, b_7, ()) (())) w :=
  pc_loopR (l := change_Diff_l5) (l' := change_Diff_l6) (body := fun (c1 : (Sl × Sl × Sl × Unit) → Unit → World → Prop) (s : Sl × Sl × Sl × Unit) => change_Diff_6 c1 R s.1 s.2.1 s.2.2.1) (lr := change_Diff_l7) (FR := fun (x : Sl × Unit) => change_Diff_5 R x.1) (id := 0) (b := (Code.at change_Diff_B [.snd, .blk, .snd, .snd, .snd, .snd, .fst, .blk, .blk])) (rest := (Code.at change_Diff_B [.snd, .blk, .snd, .snd, .snd, .snd, .snd])) (by kernel_rfl) (fun c1 s w h => change_Diff_6_ok c1 R s.1 s.2.1 s.2.2.1 w h) (fun x w h => change_Diff_5_ok R x.1 w h) h
theorem change_Diff_3_ok (R : Sl → World → Prop) (old_2 : Addr) (now_3 : Addr) (l_5 : Sl) (w : World) (h : change_Diff_3 R old_2 now_3 l_5 w) : WPC P 120 [] (Code.at change_Diff_B [.snd, .blk, .snd, .snd]) (noGotoQ (topQ P [.tmp 4] .sl R)) (mkE 120 change_Diff_l4 (old_2, now_3, l_5, ())) w :=
  pc_cut2 (T := change_Diff_3 R old_2 now_3 l_5 w) (l := change_Diff_l5) (l' := change_Diff_l6) (F := fun (x : Sl × Sl × Sl × Unit) (y : Unit) => change_Diff_4 R x.1 x.2.1 x.2.2.1) hmix 2 (mkE_len ..) (by kernel_rfl) (fun x y w h => change_Diff_4_ok R x.1 x.2.1 x.2.2.1 w h) (by kernel_rfl) h
theorem change_Diff_2_ok (R : Sl → World → Prop) (old_2 : Addr) (now_3 : Addr) (w : World) (h : change_Diff_2 R old_2 now_3 w) : WPC P 120 [] (Code.at change_Diff_B [.snd, .blk]) (noGotoQ (topQ P [.tmp 4] .sl R)) (mkE 120 change_Diff_l3 (old_2, now_3, ())) w :=
  pc_cut (T := change_Diff_2 R old_2 now_3 w) (l := change_Diff_l4) (F := fun (x : Addr × Addr × Sl × Unit) => change_Diff_3 R x.1 x.2.1 x.2.2.1) hmix 2 (mkE_len ..) (by kernel_rfl) (fun x w h => change_Diff_3_ok R x.1 x.2.1 x.2.2.1 w h) (by kernel_rfl) h
theorem change_Diff_1_ok (R : Sl → World → Prop) (old_2 : Addr) (now_3 : Addr) (w : World) (h : change_Diff_1 R old_2 now_3 w) : WPC P 120 [] (Code.at change_Diff_B [.snd]) (topQ P [.tmp 4] .sl R) (mkE 120 change_Diff_l2 (old_2, now_3, ())) w :=
  pc_scope0 (c := (Code.at change_Diff_B [.snd, .blk])) (by kernel_rfl) (pc_cut (T := (change_Diff_2 R old_2 now_3) w) (l := change_Diff_l3) (F := fun (x : Addr × Addr × Unit) => change_Diff_2 R x.1 x.2.1) (c := (Code.at change_Diff_B [.snd, .blk])) hmix 0 (mkE_len ..) (by kernel_rfl) (fun x w h => change_Diff_2_ok R x.1 x.2.1 w h) (by kernel_rfl) h)
theorem change_Diff_0_ok (R : Sl → World → Prop) (old_0 : T_api_Batch) (now_1 : T_api_Batch) (w : World) (h : change_Diff_0 R old_0 now_1 w) : WPC P 120 [] (Code.at change_Diff_B []) (topQ P [.tmp 4] .sl R) (mkE 120 change_Diff_l1 (old_0, now_1, ())) w :=
  pc_cut (T := change_Diff_0 R old_0 now_1 w) (l := change_Diff_l2) (F := fun (x : Addr × Addr × Unit) => change_Diff_1 R x.1 x.2.1) hmix 1 (mkE_len ..) (by kernel_rfl) (fun x w h => change_Diff_1_ok R x.1 x.2.1 w h) (by kernel_rfl) h
theorem change_Diff_call (R : Sl → World → Prop) (old_0 : T_api_Batch) (now_1 : T_api_Batch) (w : World) (h : change_Diff_0 R old_0 now_1 w) : mcall P n_change_Diff [(KV k_api_Batch old_0), (KV k_api_Batch now_1)] .sl R w :=
  pc_top (T := (change_Diff_0 R old_0 now_1) w) (l := change_Diff_l1) (F := fun (x : T_api_Batch × T_api_Batch × Unit) => change_Diff_0 R x.1 x.2.1) (n := 120) (c := change_Diff_B) Tryz.func31 rfl (by kernel_rfl) (by kernel_rfl) (by kernel_rfl) (fun x w h => change_Diff_0_ok R x.1 x.2.1 w h) (by kernel_rfl) h
/- (*headgate part.Part).Put -/
noncomputable abbrev part_Part_Put_B : Code := (Tryz.f32.body).getD .skip
abbrev part_Part_Put_l1 : Slots := [(0, .p), (1, k_api_Batch)]
def part_Part_Put_0 (R : (Int × Bool × Int × Unit) → World → Prop) (p_0 : Option Addr) (b_1 : T_api_Batch) : World → Prop :=
 bx P t_api_Batch k_api_Batch b_1 fun a1 =>
 mcall P n_part_Part_none [(.pointer p_0)] .b fun (x2 : Bool) =>
 mif x2
 (R (0, false, 1, ()))
 (mnil p_0 fun a3 =>
 ld P t_ptr_seglog_Log a3 .p fun (x4 : Option Addr) =>
 mcall P n_seglog_Log_Broken [(.pointer x4)] I fun (x5 : Int) =>
 mif (x5 != 0)
 (R (0, false, x5, ()))
 (mdraw <|
 mnil p_0 fun a6 =>
 ld P t_sl_api_Prod (ad a6 1) .sl fun (x7 : Sl) =>
 ld P t_api_Batch a1 k_api_Batch fun (x8 : T_api_Batch) =>
 mcall P n_dedup_Look [(Sl.v x7), (KV k_api_Batch x8)] (.tup [I, .b, I]) fun (x9 : Int × Bool × Int × Unit) =>
 mif (x9.2.2.1 != 0)
 (R (x9.1, x9.2.1, x9.2.2.1, ()))
 (mif x9.2.1
 (R (x9.1, x9.2.1, x9.2.2.1, ()))
 (ld P t_api_Batch a1 k_api_Batch fun (x10 : T_api_Batch) =>
 mcall P n_part_Part_write [(.pointer p_0), (KV k_api_Batch x10)] (.tup [I, I]) fun (x11 : Int × Int × Unit) =>
 R (x11.1, false, x11.2.1, ())))))
theorem part_Part_Put_0_ok (R : (Int × Bool × Int × Unit) → World → Prop) (p_0 : Option Addr) (b_1 : T_api_Batch) (w : World) (h : part_Part_Put_0 R p_0 b_1 w) : WPC P 47 [] (Code.at part_Part_Put_B []) (topQ P [.tmp 4, .tmp 5, .tmp 6] (.tup [I, .b, I]) R) (mkE 47 part_Part_Put_l1 (p_0, b_1, ())) w :=
  pc_end (T := part_Part_Put_0 R p_0 b_1 w) hmix (by kernel_rfl) h
theorem part_Part_Put_call (R : (Int × Bool × Int × Unit) → World → Prop) (p_0 : Option Addr) (b_1 : T_api_Batch) (w : World) (h : part_Part_Put_0 R p_0 b_1 w) : mcall P n_part_Part_Put [(.pointer p_0), (KV k_api_Batch b_1)] (.tup [I, .b, I]) R w :=
  pc_top (T := (part_Part_Put_0 R p_0 b_1) w) (l := part_Part_Put_l1) (F := fun (x : Option Addr × T_api_Batch × Unit) => part_Part_Put_0 R x.1 x.2.1) (n := 47) (c := part_Part_Put_B) Tryz.func32 rfl (by kernel_rfl) (by kernel_rfl) (by kernel_rfl) (fun x w h => part_Part_Put_0_ok R x.1 x.2.1 w h) (by kernel_rfl) h
end Go.Proofs.YtegjokkkdkaphaaGreatDoor
