/- Short texts of functions of the program, each with the proof that a call comes to it. No condition. -/
import Derived.Test.YtegjokkkdkaphaaGreatDoorNames
set_option linter.unusedVariables false
set_option linter.unusedSimpArgs false
namespace Go.Proofs.YtegjokkkdkaphaaGreatDoor
open Go Go.W
set_option maxRecDepth 100000
/- (headgate seglog.segment).from -/
noncomputable abbrev seglog_segment_from_B : Code := (Tryz.f74.body).getD .skip
abbrev seglog_segment_from_l1 : Slots := [(0, k_seglog_segment), (1, I)]
abbrev seglog_segment_from_l2 : Slots := [(1, I), (2, .ad), (5, I)]
abbrev seglog_segment_from_l3 : Slots := [(5, I)]
def seglog_segment_from_2 (R : Int → World → Prop) (at_5 : Int) : World → Prop :=
 R at_5
abbrev seglog_segment_from_l4 : Slots := [(1, I), (2, .ad), (5, I)]
abbrev seglog_segment_from_l5 : Slots := [(5, I), (11, I)]
abbrev seglog_segment_from_l6 : Slots := [(1, I), (9, .sl), (10, I)]
abbrev seglog_segment_from_l7 : Slots := [(1, I), (5, I), (9, .sl), (10, I), (11, I)]
def seglog_segment_from_6 (c1 : (Int × Int × Unit) → (Int × Sl × Int × Unit) → World → Prop) (R : Int → World → Prop) (off_1 : Int) (at_5 : Int) (v9 : Sl) (v10 : Int) (v11 : Int) : World → Prop :=
 c1 (at_5, w64 (v11 + 1), ()) (off_1, v9, v10, ())
def seglog_segment_from_5 (c1 : (Int × Int × Unit) → (Int × Sl × Int × Unit) → World → Prop) (R : Int → World → Prop) (at_5 : Int) (v11 : Int) (off_1 : Int) (v9 : Sl) (v10 : Int) : World → Prop :=
 mif (decide (v11 < v10))
 (ixa P t_sl_api_Mark (Sl.v v9) v11 fun (x3 : Addr) =>
 ld P t_api_Mark x3 k_api_Seg fun (x4 : T_api_Seg) =>
 alo P t_api_Mark fun a5 =>
 sto P t_api_Mark a5 k_api_Seg x4 <|
 ld P t_int a5 I fun (x6 : Int) =>
 mif (decide (x6 ≤ off_1))
 (ld P t_int (ad a5 2) I fun (x7 : Int) =>
 seglog_segment_from_6 c1 R off_1 x7 v9 v10 v11)
 (seglog_segment_from_6 c1 R off_1 at_5 v9 v10 v11))
 (seglog_segment_from_2 R at_5)
def seglog_segment_from_4 (R : Int → World → Prop) (at_5 : Int) (v11 : Int) (off_1 : Int) (v9 : Sl) (v10 : Int) : World → Prop :=
 W.Loop (off_1, v9, v10, ()) (fun (c1 : (Int × Int × Unit) → (Int × Sl × Int × Unit) → World → Prop) (s : Int × Int × Unit) => seglog_segment_from_5 c1 R s.1 s.2.1 off_1 v9 v10) (at_5, v11, ())
def seglog_segment_from_3 (R : Int → World → Prop) (off_1 : Int) (s_2 : Addr) (at_5 : Int) : World → Prop :=
 ld P t_sl_api_Mark (ad s_2 3) .sl fun (x2 : Sl) =>
 seglog_segment_from_4 R at_5 0 off_1 x2 (x2.len : Int)
def seglog_segment_from_1 (R : Int → World → Prop) (off_1 : Int) (s_2 : Addr) (at_5 : Int) : World → Prop :=
 seglog_segment_from_3 R off_1 s_2 at_5
def seglog_segment_from_0 (R : Int → World → Prop) (s_0 : T_seglog_segment) (off_1 : Int) : World → Prop :=
 bx P t_seglog_segment k_seglog_segment s_0 fun a1 =>
 seglog_segment_from_1 R off_1 a1 0
theorem seglog_segment_from_2_ok (R : Int → World → Prop) (at_5 : Int) (w : World) (h : seglog_segment_from_2 R at_5 w) : WPC P 23 [] (Code.at seglog_segment_from_B [.snd, .snd, .snd]) (topQ P [.tmp 4] I R) (mkE 23 seglog_segment_from_l3 (at_5, ())) w :=
  pc_end (T := seglog_segment_from_2 R at_5 w) hmix (by kernel_rfl) h
theorem seglog_segment_from_6_ok (c1 : (Int × Int × Unit) → (Int × Sl × Int × Unit) → World → Prop) (R : Int → World → Prop) (off_1 : Int) (at_5 : Int) (v9 : Sl) (v10 : Int) (v11 : Int) (w : World) (h : seglog_segment_from_6 c1 R off_1 at_5 v9 v10 v11 w) : WPC P 23 [] (Code.at seglog_segment_from_B [.snd, .snd, .fst, .snd, .blk, .blk, .snd, .snd, .snd]) (thenQ (fun env => getE env seglog_segment_from_l5 fun (s : Int × Int × Unit) => getE env seglog_segment_from_l6 (c1 s)) (blockQ 0 ((thenQ (fun env => getE env seglog_segment_from_l3 fun (x : Int × Unit) => seglog_segment_from_2 R x.1) (topQ P [.tmp 4] I R)) .normal) (thenQ (fun env => getE env seglog_segment_from_l3 fun (x : Int × Unit) => seglog_segment_from_2 R x.1) (topQ P [.tmp 4] I R)))) (mkE 23 seglog_segment_from_l7 (off_1, at_5, v9, v10, v11, ())) w :=
  pc_end (T := seglog_segment_from_6 c1 R off_1 at_5 v9 v10 v11 w) hmix (by kernel_rfl) h
theorem seglog_segment_from_5_ok (c1 : (Int × Int × Unit) → (Int × Sl × Int × Unit) → World → Prop) (R : Int → World → Prop) (at_5 : Int) (v11 : Int) (off_1 : Int) (v9 : Sl) (v10 : Int) (w : World) (h : seglog_segment_from_5 c1 R at_5 v11 off_1 v9 v10 w) : WPC P 23 [] (Code.at seglog_segment_from_B [.snd, .snd, .fst, .snd, .blk, .blk]) (thenQ (fun env => getE env seglog_segment_from_l5 fun (s : Int × Int × Unit) => getE env seglog_segment_from_l6 (c1 s)) (blockQ 0 ((thenQ (fun env => getE env seglog_segment_from_l3 fun (x : Int × Unit) => seglog_segment_from_2 R x.1) (topQ P [.tmp 4] I R)) .normal) (thenQ (fun env => getE env seglog_segment_from_l3 fun (x : Int × Unit) => seglog_segment_from_2 R x.1) (topQ P [.tmp 4] I R)))) (mkE2 23 seglog_segment_from_l5 seglog_segment_from_l6 (at_5, v11, ()) (off_1, v9, v10, ())) w :=
  pc_cut (T := seglog_segment_from_5 c1 R at_5 v11 off_1 v9 v10 w) (l := seglog_segment_from_l7) (F := fun (x : Int × Int × Sl × Int × Int × Unit) => seglog_segment_from_6 c1 R x.1 x.2.1 x.2.2.1 x.2.2.2.1 x.2.2.2.2.1) hmix 3 (mkE2_len ..) (by kernel_rfl) (fun x w h => seglog_segment_from_6_ok c1 R x.1 x.2.1 x.2.2.1 x.2.2.2.1 x.2.2.2.2.1 w h) (by kernel_rfl) h
theorem seglog_segment_from_4_ok (R : Int → World → Prop) (at_5 : Int) (v11 : Int) (off_1 : Int) (v9 : Sl) (v10 : Int) (w : World) (h : seglog_segment_from_4 R at_5 v11 off_1 v9 v10 w) : WPC P 23 [] (Code.at seglog_segment_from_B [.snd, .snd, .fst, .snd]) (thenQ (fun env => getE env seglog_segment_from_l3 fun (x : Int × Unit) => seglog_segment_from_2 R x.1) (topQ P [.tmp 4] I R)) (mkE2 23 seglog_segment_from_l5 seglog_segment_from_l6 (at_5, v11, ()) (off_1, v9, v10, ())) w :=
  pc_loopE (l := seglog_segment_from_l5) (l' := seglog_segment_from_l6) (body := fun (c1 : (Int × Int × Unit) → (Int × Sl × Int × Unit) → World → Prop) (s : Int × Int × Unit) => seglog_segment_from_5 c1 R s.1 s.2.1 off_1 v9 v10) (id := 0) (b := (Code.at seglog_segment_from_B [.snd, .snd, .fst, .snd, .blk, .blk])) (by kernel_rfl) (fun c1 s w h => seglog_segment_from_5_ok c1 R s.1 s.2.1 off_1 v9 v10 w h) h
theorem seglog_segment_from_3_ok (R : Int → World → Prop) (off_1 : Int) (s_2 : Addr) (at_5 : Int) (w : World) (h : seglog_segment_from_3 R off_1 s_2 at_5 w) : WPC P 23 [] (Code.at seglog_segment_from_B [.snd, .snd, .fst]) (thenQ (fun env => getE env seglog_segment_from_l3 fun (x : Int × Unit) => seglog_segment_from_2 R x.1) (topQ P [.tmp 4] I R)) (mkE 23 seglog_segment_from_l4 (off_1, s_2, at_5, ())) w :=
  pc_cut2 (T := seglog_segment_from_3 R off_1 s_2 at_5 w) (l := seglog_segment_from_l5) (l' := seglog_segment_from_l6) (F := fun (x : Int × Int × Unit) (y : Int × Sl × Int × Unit) => seglog_segment_from_4 R x.1 x.2.1 y.1 y.2.1 y.2.2.1) hmix 1 (mkE_len ..) (by kernel_rfl) (fun x y w h => seglog_segment_from_4_ok R x.1 x.2.1 y.1 y.2.1 y.2.2.1 w h) (by kernel_rfl) h
theorem seglog_segment_from_1_ok (R : Int → World → Prop) (off_1 : Int) (s_2 : Addr) (at_5 : Int) (w : World) (h : seglog_segment_from_1 R off_1 s_2 at_5 w) : WPC P 23 [] (Code.at seglog_segment_from_B [.snd, .snd]) (topQ P [.tmp 4] I R) (mkE 23 seglog_segment_from_l2 (off_1, s_2, at_5, ())) w :=
  pc_seq (l := seglog_segment_from_l3) (F := fun (x : Int × Unit) => seglog_segment_from_2 R x.1) (a := (Code.at seglog_segment_from_B [.snd, .snd, .fst])) (b := (Code.at seglog_segment_from_B [.snd, .snd, .snd])) (by kernel_rfl) (pc_cut (T := (seglog_segment_from_3 R off_1 s_2 at_5) w) (l := seglog_segment_from_l4) (F := fun (x : Int × Addr × Int × Unit) => seglog_segment_from_3 R x.1 x.2.1 x.2.2.1) (c := (Code.at seglog_segment_from_B [.snd, .snd, .fst])) hmix 0 (mkE_len ..) (by kernel_rfl) (fun x w h => seglog_segment_from_3_ok R x.1 x.2.1 x.2.2.1 w h) (by kernel_rfl) h) (fun x w h => seglog_segment_from_2_ok R x.1 w h)
theorem seglog_segment_from_0_ok (R : Int → World → Prop) (s_0 : T_seglog_segment) (off_1 : Int) (w : World) (h : seglog_segment_from_0 R s_0 off_1 w) : WPC P 23 [] (Code.at seglog_segment_from_B []) (topQ P [.tmp 4] I R) (mkE 23 seglog_segment_from_l1 (s_0, off_1, ())) w :=
  pc_cut (T := seglog_segment_from_0 R s_0 off_1 w) (l := seglog_segment_from_l2) (F := fun (x : Int × Addr × Int × Unit) => seglog_segment_from_1 R x.1 x.2.1 x.2.2.1) hmix 2 (mkE_len ..) (by kernel_rfl) (fun x w h => seglog_segment_from_1_ok R x.1 x.2.1 x.2.2.1 w h) (by kernel_rfl) h
theorem seglog_segment_from_call (R : Int → World → Prop) (s_0 : T_seglog_segment) (off_1 : Int) (w : World) (h : seglog_segment_from_0 R s_0 off_1 w) : mcall P n_seglog_segment_from [(KV k_seglog_segment s_0), (.int .i64 off_1)] I R w :=
  pc_top (T := (seglog_segment_from_0 R s_0 off_1) w) (l := seglog_segment_from_l1) (F := fun (x : T_seglog_segment × Int × Unit) => seglog_segment_from_0 R x.1 x.2.1) (n := 23) (c := seglog_segment_from_B) Tryz.func74 rfl (by kernel_rfl) (by kernel_rfl) (by kernel_rfl) (fun x w h => seglog_segment_from_0_ok R x.1 x.2.1 w h) (by kernel_rfl) h
/- headgate dedup.Note -/
noncomputable abbrev dedup_Note_B : Code := (Tryz.f75.body).getD .skip
abbrev dedup_Note_l1 : Slots := [(0, .sl), (1, k_api_Batch), (2, I)]
abbrev dedup_Note_l2 : Slots := [(0, .sl), (7, I), (8, .b), (9, .ad)]
def dedup_Note_1 (R : Sl → World → Prop) (l_0 : Sl) (i_7 : Int) (ok_8 : Bool) (row_9 : Addr) : World → Prop :=
 mif (!ok_8)
 (ld P t_api_Prod row_9 k_api_Prod fun (x15 : T_api_Prod) =>
 bsl P t_sl_api_Prod k_api_Prod [x15] fun x16 =>
 mcall P n_slices_Insert_sl_api_Prod_api_Prod [(Sl.v l_0), (.int .i64 i_7), (Sl.v x16)] .sl fun (x17 : Sl) =>
 R x17)
 (ld P t_api_Prod row_9 k_api_Prod fun (x18 : T_api_Prod) =>
 ixa P t_sl_api_Prod (Sl.v l_0) i_7 fun (x19 : Addr) =>
 sto P t_api_Prod x19 k_api_Prod x18 <|
 R l_0)
def dedup_Note_0 (R : Sl → World → Prop) (l_0 : Sl) (b_1 : T_api_Batch) (base_2 : Int) : World → Prop :=
 bx P t_api_Batch k_api_Batch b_1 fun a1 =>
 mcall P n_slices_Clone_sl_api_Prod_api_Prod [(Sl.v l_0)] .sl fun (x2 : Sl) =>
 ld P t_int (ad a1 1) I fun (x3 : Int) =>
 mif (x3 == 0)
 (R x2)
 (ld P t_int (ad a1 1) I fun (x4 : Int) =>
 mcall P n_dedup_find [(Sl.v x2), (.int .i64 x4)] (.tup [I, .b]) fun (x5 : Int × Bool × Unit) =>
 ld P t_int (ad a1 1) I fun (x6 : Int) =>
 ld P t_int (ad a1 2) I fun (x7 : Int) =>
 ld P t_int (ad a1 3) I fun (x8 : Int) =>
 ld P t_sl_api_Record (ad a1 4) .sl fun (x9 : Sl) =>
 alo P t_api_Prod fun a10 =>
 sto P t_api_Prod a10 k_api_Prod (x6, x7, x8, (x9.len : Int), base_2, ()) <|
 ld P t_int a1 I fun (x11 : Int) =>
 mif (decide (x11 > 2))
 (sto P t_int (ad a10 2) I 0 <|
 sto P t_int (ad a10 3) I 0 <|
 mdraw <|
 mif x5.2.1
 (ixa P t_sl_api_Prod (Sl.v x2) x5.1 fun (x12 : Addr) =>
 ld P t_int (ad x12 1) I fun (x13 : Int) =>
 ld P t_int (ad a1 2) I fun (x14 : Int) =>
 mif (decide (x13 ≥ x14))
 (R x2)
 (dedup_Note_1 R x2 x5.1 x5.2.1 a10))
 (dedup_Note_1 R x2 x5.1 x5.2.1 a10))
 (dedup_Note_1 R x2 x5.1 x5.2.1 a10))
theorem dedup_Note_1_ok (R : Sl → World → Prop) (l_0 : Sl) (i_7 : Int) (ok_8 : Bool) (row_9 : Addr) (w : World) (h : dedup_Note_1 R l_0 i_7 ok_8 row_9 w) : WPC P 63 [] (Code.at dedup_Note_B [.snd, .snd, .snd, .snd, .snd, .snd]) (topQ P [.tmp 6] .sl R) (mkE 63 dedup_Note_l2 (l_0, i_7, ok_8, row_9, ())) w :=
  pc_end (T := dedup_Note_1 R l_0 i_7 ok_8 row_9 w) hmix (by kernel_rfl) h
theorem dedup_Note_0_ok (R : Sl → World → Prop) (l_0 : Sl) (b_1 : T_api_Batch) (base_2 : Int) (w : World) (h : dedup_Note_0 R l_0 b_1 base_2 w) : WPC P 63 [] (Code.at dedup_Note_B []) (topQ P [.tmp 6] .sl R) (mkE 63 dedup_Note_l1 (l_0, b_1, base_2, ())) w :=
  pc_cut (T := dedup_Note_0 R l_0 b_1 base_2 w) (l := dedup_Note_l2) (F := fun (x : Sl × Int × Bool × Addr × Unit) => dedup_Note_1 R x.1 x.2.1 x.2.2.1 x.2.2.2.1) hmix 6 (mkE_len ..) (by kernel_rfl) (fun x w h => dedup_Note_1_ok R x.1 x.2.1 x.2.2.1 x.2.2.2.1 w h) (by kernel_rfl) h
theorem dedup_Note_call (R : Sl → World → Prop) (l_0 : Sl) (b_1 : T_api_Batch) (base_2 : Int) (w : World) (h : dedup_Note_0 R l_0 b_1 base_2 w) : mcall P n_dedup_Note [(Sl.v l_0), (KV k_api_Batch b_1), (.int .i64 base_2)] .sl R w :=
  pc_top (T := (dedup_Note_0 R l_0 b_1 base_2) w) (l := dedup_Note_l1) (F := fun (x : Sl × T_api_Batch × Int × Unit) => dedup_Note_0 R x.1 x.2.1 x.2.2.1) (n := 63) (c := dedup_Note_B) Tryz.func75 rfl (by kernel_rfl) (by kernel_rfl) (by kernel_rfl) (fun x w h => dedup_Note_0_ok R x.1 x.2.1 x.2.2.1 w h) (by kernel_rfl) h
/- (*headgate part.Part).find -/
noncomputable abbrev part_Part_find_B : Code := (Tryz.f76.body).getD .skip
abbrev part_Part_find_l1 : Slots := [(0, .p), (1, I)]
def part_Part_find_0 (R : Int → World → Prop) (p_0 : Option Addr) (pid_1 : Int) : World → Prop :=
 bx P t_int I pid_1 fun a1 =>
 mnil p_0 fun a2 =>
 ld P t_sl_api_Open (ad a2 2) .sl fun (x3 : Sl) =>
 mcall P n_slices_IndexFunc_sl_api_Open_api_Open [(Sl.v x3), (.func (.func n_part_Part_find_c1) #[] #[.pointer (some a1)])] I fun (x4 : Int) =>
 R x4
theorem part_Part_find_0_ok (R : Int → World → Prop) (p_0 : Option Addr) (pid_1 : Int) (w : World) (h : part_Part_find_0 R p_0 pid_1 w) : WPC P 11 [] (Code.at part_Part_find_B []) (topQ P [.tmp 4] I R) (mkE 11 part_Part_find_l1 (p_0, pid_1, ())) w :=
  pc_end (T := part_Part_find_0 R p_0 pid_1 w) hmix (by kernel_rfl) h
theorem part_Part_find_call (R : Int → World → Prop) (p_0 : Option Addr) (pid_1 : Int) (w : World) (h : part_Part_find_0 R p_0 pid_1 w) : mcall P n_part_Part_find [(.pointer p_0), (.int .i64 pid_1)] I R w :=
  pc_top (T := (part_Part_find_0 R p_0 pid_1) w) (l := part_Part_find_l1) (F := fun (x : Option Addr × Int × Unit) => part_Part_find_0 R x.1 x.2.1) (n := 11) (c := part_Part_find_B) Tryz.func76 rfl (by kernel_rfl) (by kernel_rfl) (by kernel_rfl) (fun x w h => part_Part_find_0_ok R x.1 x.2.1 w h) (by kernel_rfl) h
/- (*headgate seglog.Log).Append -/
noncomputable abbrev seglog_Log_Append_B : Code := (Tryz.f80.body).getD .skip
abbrev seglog_Log_Append_l1 : Slots := [(0, .p), (1, .sl)]
abbrev seglog_Log_Append_l2 : Slots := [(0, .p), (1, .sl), (6, .sl), (7, .sl), (8, I)]
abbrev seglog_Log_Append_l3 : Slots := [(0, .p), (6, .sl), (7, .sl), (8, I)]
abbrev seglog_Log_Append_l4 : Slots := [(0, .p), (6, .sl), (7, .sl), (8, I), (14, .p)]
abbrev seglog_Log_Append_l5 : Slots := [(0, .p), (6, .sl), (7, .sl), (8, I), (14, .p)]
abbrev seglog_Log_Append_l6 : Slots := [(0, .p), (6, .sl), (8, I)]
def seglog_Log_Append_5 (R : (Int × Int × Unit) → World → Prop) (l_0 : Option Addr) (entries_6 : Sl) (next_8 : Int) : World → Prop :=
 mnil l_0 fun a41 =>
 sto P t_int (ad a41 4) I next_8 <|
 ixa P t_sl_api_Entry (Sl.v entries_6) 0 fun (x42 : Addr) =>
 ld P t_int x42 I fun (x43 : Int) =>
 R (x43, 0, ())
abbrev seglog_Log_Append_l7 : Slots := [(0, .p), (6, .sl), (7, .sl), (8, I), (14, .p)]
abbrev seglog_Log_Append_l8 : Slots := [(152, I)]
abbrev seglog_Log_Append_l9 : Slots := [(0, .p), (6, .sl), (7, .sl), (8, I), (14, .p), (150, .sl), (151, I)]
def seglog_Log_Append_8 (c1 : (Int × Unit) → (Option Addr × Sl × Sl × Int × Option Addr × Sl × Int × Unit) → World → Prop) (R : (Int × Int × Unit) → World → Prop) (v152 : Int) (l_0 : Option Addr) (entries_6 : Sl) (texts_7 : Sl) (next_8 : Int) (x_14 : Option Addr) (v150 : Sl) (v151 : Int) : World → Prop :=
 mif (decide (v152 < v151))
 (ixa P t_sl_api_Entry (Sl.v v150) v152 fun (x44 : Addr) =>
 ld P t_api_Entry x44 k_api_Record fun (x45 : T_api_Record) =>
 alo P t_api_Entry fun a46 =>
 sto P t_api_Entry a46 k_api_Record x45 <|
 mdraw <|
 ld P t_api_Entry a46 k_api_Record fun (x47 : T_api_Record) =>
 ixa P t_sl_string (Sl.v texts_7) v152 fun (x48 : Addr) =>
 ld P t_string x48 .s fun (x49 : Bs) =>
 mcall P n_seglog_segment_took [(.pointer x_14), (KV k_api_Record x47), (.int .i64 (x49.length : Int))] (.tup []) fun (x50 : Unit) =>
 c1 (w64 (v152 + 1), ()) (l_0, entries_6, texts_7, next_8, x_14, v150, v151, ()))
 (seglog_Log_Append_5 R l_0 entries_6 next_8)
def seglog_Log_Append_7 (R : (Int × Int × Unit) → World → Prop) (v152 : Int) (l_0 : Option Addr) (entries_6 : Sl) (texts_7 : Sl) (next_8 : Int) (x_14 : Option Addr) (v150 : Sl) (v151 : Int) : World → Prop :=
 W.Loop (l_0, entries_6, texts_7, next_8, x_14, v150, v151, ()) (fun (c1 : (Int × Unit) → (Option Addr × Sl × Sl × Int × Option Addr × Sl × Int × Unit) → World → Prop) (s : Int × Unit) => seglog_Log_Append_8 c1 R s.1 l_0 entries_6 texts_7 next_8 x_14 v150 v151) (v152, ())
def seglog_Log_Append_6 (R : (Int × Int × Unit) → World → Prop) (l_0 : Option Addr) (entries_6 : Sl) (texts_7 : Sl) (next_8 : Int) (x_14 : Option Addr) : World → Prop :=
 seglog_Log_Append_7 R 0 l_0 entries_6 texts_7 next_8 x_14 entries_6 (entries_6.len : Int)
def seglog_Log_Append_4 (R : (Int × Int × Unit) → World → Prop) (l_0 : Option Addr) (entries_6 : Sl) (texts_7 : Sl) (next_8 : Int) (x_14 : Option Addr) : World → Prop :=
 seglog_Log_Append_6 R l_0 entries_6 texts_7 next_8 x_14
def seglog_Log_Append_3 (R : (Int × Int × Unit) → World → Prop) (l_0 : Option Addr) (entries_6 : Sl) (texts_7 : Sl) (next_8 : Int) (x_14 : Option Addr) : World → Prop :=
 mdraw <|
 mnil l_0 fun a19 =>
 ld P t_ptr_disk_Disk a19 .p fun (x20 : Option Addr) =>
 mnil x_14 fun a21 =>
 ld P t_int a21 I fun (x22 : Int) =>
 mcall P n_seglog_Log_file [(.pointer l_0), (.int .i64 x22)] .s fun (x23 : Bs) =>
 mst P (Instr.loadAt t_ptr_disk_Disk (.pointer (some a19))) (.pointer x20) <|
 mcall P n_strings_Join [(Sl.v texts_7), (.string ⟨[].toArray⟩)] .s fun (x24 : Bs) =>
 mst P (Instr.loadAt t_ptr_disk_Disk (.pointer (some a19))) (.pointer x20) <|
 mcall P n_disk_Disk_Append [(.pointer x20), (.string ⟨x23.toArray⟩), (.string ⟨x24.toArray⟩)] I fun (x25 : Int) =>
 mif (x25 == 5)
 (R (0, x25, ()))
 (mnil l_0 fun a26 =>
 sto P t_api_Errno (ad a26 6) I x25 <|
 mif (x25 != 0)
 (R (0, x25, ()))
 (mcall P n_seglog_Log_active [(.pointer l_0)] .p fun (x27 : Option Addr) =>
 meq P .eql t_ptr_seglog_segment (.pointer x27) (.pointer none) fun (x28 : Bool) =>
 mif x28
 (mdraw <|
 mnil l_0 fun a29 =>
 ld P t_sl_seglog_segment (ad a29 2) .sl fun (x30 : Sl) =>
 mnil x_14 fun a31 =>
 ld P t_seglog_segment a31 k_seglog_segment fun (x32 : T_seglog_segment) =>
 bsl P t_sl_seglog_segment k_seglog_segment [x32] fun x33 =>
 mst P (Instr.loadAt t_sl_seglog_segment (.pointer (some (ad a29 2)))) (.slice x30.a x30.len x30.cap) <|
 app P #[t_sl_seglog_segment, t_sl_seglog_segment] t_sl_seglog_segment (Sl.v x30) (Sl.v x33) fun (x34 : Sl) =>
 mnil l_0 fun a35 =>
 sto P t_sl_seglog_segment (ad a35 2) .sl x34 <|
 mdraw <|
 mnil l_0 fun a36 =>
 ld P t_sl_seglog_segment (ad a36 2) .sl fun (x37 : Sl) =>
 mnil l_0 fun a38 =>
 ld P t_sl_seglog_segment (ad a38 2) .sl fun (x39 : Sl) =>
 ixa P t_sl_seglog_segment (Sl.v x37) (w64 ((x39.len : Int) - 1)) fun (x40 : Addr) =>
 seglog_Log_Append_4 R l_0 entries_6 texts_7 next_8 (some x40))
 (seglog_Log_Append_4 R l_0 entries_6 texts_7 next_8 x_14)))
def seglog_Log_Append_2 (R : (Int × Int × Unit) → World → Prop) (l_0 : Option Addr) (entries_6 : Sl) (texts_7 : Sl) (next_8 : Int) : World → Prop :=
 mcall P n_seglog_Log_active [(.pointer l_0)] .p fun (x8 : Option Addr) =>
 meq P .eql t_ptr_seglog_segment (.pointer x8) (.pointer none) fun (x9 : Bool) =>
 mif x9
 (mnil l_0 fun a10 =>
 ld P t_sl_seglog_segment (ad a10 2) .sl fun (x11 : Sl) =>
 mif (decide ((x11.len : Int) > 0))
 (mcall P n_seglog_Log_Sync [(.pointer l_0)] I fun (x12 : Int) =>
 mif (x12 != 0)
 (R (0, x12, ()))
 (mnil l_0 fun a13 =>
 ld P t_int (ad a13 4) I fun (x14 : Int) =>
 bx P t_seglog_segment k_seglog_segment ((x14, 0, 0, ()), ⟨none, 0, 0⟩, ()) fun a15 =>
 seglog_Log_Append_3 R l_0 entries_6 texts_7 next_8 (some a15)))
 (mnil l_0 fun a16 =>
 ld P t_int (ad a16 4) I fun (x17 : Int) =>
 bx P t_seglog_segment k_seglog_segment ((x17, 0, 0, ()), ⟨none, 0, 0⟩, ()) fun a18 =>
 seglog_Log_Append_3 R l_0 entries_6 texts_7 next_8 (some a18)))
 (seglog_Log_Append_3 R l_0 entries_6 texts_7 next_8 x8)
abbrev seglog_Log_Append_l10 : Slots := [(0, .p), (1, .sl), (6, .sl), (7, .sl), (8, I)]
abbrev seglog_Log_Append_l11 : Slots := [(6, .sl), (7, .sl), (8, I), (43, I)]
abbrev seglog_Log_Append_l12 : Slots := [(0, .p), (41, .sl), (42, I)]
def seglog_Log_Append_11 (c1 : (Sl × Sl × Int × Int × Unit) → (Option Addr × Sl × Int × Unit) → World → Prop) (R : (Int × Int × Unit) → World → Prop) (entries_6 : Sl) (texts_7 : Sl) (next_8 : Int) (v43 : Int) (l_0 : Option Addr) (v41 : Sl) (v42 : Int) : World → Prop :=
 mif (decide (v43 < v42))
 (ixa P t_sl_api_Item (Sl.v v41) v43 fun (x51 : Addr) =>
 ld P t_api_Item x51 k_api_Item fun (x52 : T_api_Item) =>
 alo P t_api_Item fun a53 =>
 sto P t_api_Item a53 k_api_Item x52 <|
 ld P t_int a53 I fun (x54 : Int) =>
 ld P t_string (ad a53 1) .s fun (x55 : Bs) =>
 alo P t_api_Entry fun a56 =>
 sto P t_api_Entry a56 k_api_Record (next_8, x54, x55, ()) <|
 ld P t_api_Entry a56 k_api_Record fun (x57 : T_api_Record) =>
 mcall P n_frame_Lay [(KV k_api_Record x57)] (.tup [.s, I]) fun (x58 : Bs × Int × Unit) =>
 mif (x58.2.1 != 0)
 (R (0, 1, ()))
 (ld P t_int a53 I fun (x59 : Int) =>
 mif (decide (x59 > (w64 (1099511627776 - next_8))))
 (R (0, 6, ()))
 (ld P t_api_Entry a56 k_api_Record fun (x60 : T_api_Record) =>
 bsl P t_sl_api_Entry k_api_Record [x60] fun x61 =>
 app P #[t_sl_api_Entry, t_sl_api_Entry] t_sl_api_Entry (Sl.v entries_6) (Sl.v x61) fun (x62 : Sl) =>
 bsl P t_sl_string .s [x58.1] fun x63 =>
 app P #[t_sl_string, t_sl_string] t_sl_string (Sl.v texts_7) (Sl.v x63) fun (x64 : Sl) =>
 ld P t_int a53 I fun (x65 : Int) =>
 c1 (x62, x64, w64 (next_8 + x65), w64 (v43 + 1), ()) (l_0, v41, v42, ()))))
 (seglog_Log_Append_2 R l_0 entries_6 texts_7 next_8)
def seglog_Log_Append_10 (R : (Int × Int × Unit) → World → Prop) (entries_6 : Sl) (texts_7 : Sl) (next_8 : Int) (v43 : Int) (l_0 : Option Addr) (v41 : Sl) (v42 : Int) : World → Prop :=
 W.Loop (l_0, v41, v42, ()) (fun (c1 : (Sl × Sl × Int × Int × Unit) → (Option Addr × Sl × Int × Unit) → World → Prop) (s : Sl × Sl × Int × Int × Unit) => seglog_Log_Append_11 c1 R s.1 s.2.1 s.2.2.1 s.2.2.2.1 l_0 v41 v42) (entries_6, texts_7, next_8, v43, ())
def seglog_Log_Append_9 (R : (Int × Int × Unit) → World → Prop) (l_0 : Option Addr) (items_1 : Sl) (entries_6 : Sl) (texts_7 : Sl) (next_8 : Int) : World → Prop :=
 seglog_Log_Append_10 R entries_6 texts_7 next_8 0 l_0 items_1 (items_1.len : Int)
def seglog_Log_Append_1 (R : (Int × Int × Unit) → World → Prop) (l_0 : Option Addr) (items_1 : Sl) (entries_6 : Sl) (texts_7 : Sl) (next_8 : Int) : World → Prop :=
 seglog_Log_Append_9 R l_0 items_1 entries_6 texts_7 next_8
def seglog_Log_Append_0 (R : (Int × Int × Unit) → World → Prop) (l_0 : Option Addr) (items_1 : Sl) : World → Prop :=
 meq P .eql t_ptr_seglog_Log (.pointer l_0) (.pointer none) fun (x1 : Bool) =>
 mif x1
 (R (0, 1, ()))
 (mif ((items_1.len : Int) == 0)
 (R (0, 1, ()))
 (mnil l_0 fun a2 =>
 ld P t_api_Errno (ad a2 6) I fun (x3 : Int) =>
 mif (x3 != 0)
 (mdraw <|
 mnil l_0 fun a4 =>
 ld P t_api_Errno (ad a4 6) I fun (x5 : Int) =>
 R (0, x5, ()))
 (mnil l_0 fun a6 =>
 ld P t_int (ad a6 4) I fun (x7 : Int) =>
 seglog_Log_Append_1 R l_0 items_1 ⟨none, 0, 0⟩ ⟨none, 0, 0⟩ x7)))
theorem seglog_Log_Append_5_ok (R : (Int × Int × Unit) → World → Prop) (l_0 : Option Addr) (entries_6 : Sl) (next_8 : Int) (w : World) (h : seglog_Log_Append_5 R l_0 entries_6 next_8 w) : WPC P 174 [] (Code.at seglog_Log_Append_B [.snd, .snd, .snd, .snd, .snd, .snd, .snd, .snd, .snd, .snd, .snd, .snd, .snd]) (topQ P [.tmp 4, .tmp 5] (.tup [I, I]) R) (mkE 174 seglog_Log_Append_l6 (l_0, entries_6, next_8, ())) w :=
  pc_end (T := seglog_Log_Append_5 R l_0 entries_6 next_8 w) hmix (by kernel_rfl) h
theorem seglog_Log_Append_8_ok (c1 : (Int × Unit) → (Option Addr × Sl × Sl × Int × Option Addr × Sl × Int × Unit) → World → Prop) (R : (Int × Int × Unit) → World → Prop) (v152 : Int) (l_0 : Option Addr) (entries_6 : Sl) (texts_7 : Sl) (next_8 : Int) (x_14 : Option Addr) (v150 : Sl) (v151 : Int) (w : World) (h : seglog_Log_Append_8 c1 R v152 l_0 entries_6 texts_7 next_8 x_14 v150 v151 w) : WPC P 174 [] (Code.at seglog_Log_Append_B [.snd, .snd, .snd, .snd, .snd, .snd, .snd, .snd, .snd, .snd, .snd, .snd, .fst, .snd, .blk, .blk]) (thenQ (fun env => getE env seglog_Log_Append_l8 fun (s : Int × Unit) => getE env seglog_Log_Append_l9 (c1 s)) (blockQ 3 ((thenQ (fun env => getE env seglog_Log_Append_l6 fun (x : Option Addr × Sl × Int × Unit) => seglog_Log_Append_5 R x.1 x.2.1 x.2.2.1) (topQ P [.tmp 4, .tmp 5] (.tup [I, I]) R)) .normal) (thenQ (fun env => getE env seglog_Log_Append_l6 fun (x : Option Addr × Sl × Int × Unit) => seglog_Log_Append_5 R x.1 x.2.1 x.2.2.1) (topQ P [.tmp 4, .tmp 5] (.tup [I, I]) R)))) (mkE2 174 seglog_Log_Append_l8 seglog_Log_Append_l9 (v152, ()) (l_0, entries_6, texts_7, next_8, x_14, v150, v151, ())) w :=
  pc_end (T := seglog_Log_Append_8 c1 R v152 l_0 entries_6 texts_7 next_8 x_14 v150 v151 w) hmix (by kernel_rfl) h
theorem seglog_Log_Append_7_ok (R : (Int × Int × Unit) → World → Prop) (v152 : Int) (l_0 : Option Addr) (entries_6 : Sl) (texts_7 : Sl) (next_8 : Int) (x_14 : Option Addr) (v150 : Sl) (v151 : Int) (w : World) (h : seglog_Log_Append_7 R v152 l_0 entries_6 texts_7 next_8 x_14 v150 v151 w) : WPC P 174 [] (Code.at seglog_Log_Append_B [.snd, .snd, .snd, .snd, .snd, .snd, .snd, .snd, .snd, .snd, .snd, .snd, .fst, .snd]) (thenQ (fun env => getE env seglog_Log_Append_l6 fun (x : Option Addr × Sl × Int × Unit) => seglog_Log_Append_5 R x.1 x.2.1 x.2.2.1) (topQ P [.tmp 4, .tmp 5] (.tup [I, I]) R)) (mkE2 174 seglog_Log_Append_l8 seglog_Log_Append_l9 (v152, ()) (l_0, entries_6, texts_7, next_8, x_14, v150, v151, ())) w :=
  pc_loopE (l := seglog_Log_Append_l8) (l' := seglog_Log_Append_l9) (body := fun (c1 : (Int × Unit) → (Option Addr × Sl × Sl × Int × Option Addr × Sl × Int × Unit) → World → Prop) (s : Int × Unit) => seglog_Log_Append_8 c1 R s.1 l_0 entries_6 texts_7 next_8 x_14 v150 v151) (id := 3) (b := (Code.at seglog_Log_Append_B [.snd, .snd, .snd, .snd, .snd, .snd, .snd, .snd, .snd, .snd, .snd, .snd, .fst, .snd, .blk, .blk])) (by kernel_rfl) (fun c1 s w h => seglog_Log_Append_8_ok c1 R s.1 l_0 entries_6 texts_7 next_8 x_14 v150 v151 w h) h
theorem seglog_Log_Append_6_ok (R : (Int × Int × Unit) → World → Prop) (l_0 : Option Addr) (entries_6 : Sl) (texts_7 : Sl) (next_8 : Int) (x_14 : Option Addr) (w : World) (h : seglog_Log_Append_6 R l_0 entries_6 texts_7 next_8 x_14 w) : WPC P 174 [] (Code.at seglog_Log_Append_B [.snd, .snd, .snd, .snd, .snd, .snd, .snd, .snd, .snd, .snd, .snd, .snd, .fst]) (thenQ (fun env => getE env seglog_Log_Append_l6 fun (x : Option Addr × Sl × Int × Unit) => seglog_Log_Append_5 R x.1 x.2.1 x.2.2.1) (topQ P [.tmp 4, .tmp 5] (.tup [I, I]) R)) (mkE 174 seglog_Log_Append_l7 (l_0, entries_6, texts_7, next_8, x_14, ())) w :=
  pc_cut2 (T := seglog_Log_Append_6 R l_0 entries_6 texts_7 next_8 x_14 w) (l := seglog_Log_Append_l8) (l' := seglog_Log_Append_l9) (F := fun (x : Int × Unit) (y : Option Addr × Sl × Sl × Int × Option Addr × Sl × Int × Unit) => seglog_Log_Append_7 R x.1 y.1 y.2.1 y.2.2.1 y.2.2.2.1 y.2.2.2.2.1 y.2.2.2.2.2.1 y.2.2.2.2.2.2.1) hmix 1 (mkE_len ..) (by kernel_rfl) (fun x y w h => seglog_Log_Append_7_ok R x.1 y.1 y.2.1 y.2.2.1 y.2.2.2.1 y.2.2.2.2.1 y.2.2.2.2.2.1 y.2.2.2.2.2.2.1 w h) (by kernel_rfl) h
theorem seglog_Log_Append_4_ok (R : (Int × Int × Unit) → World → Prop) (l_0 : Option Addr) (entries_6 : Sl) (texts_7 : Sl) (next_8 : Int) (x_14 : Option Addr) (w : World) (h : seglog_Log_Append_4 R l_0 entries_6 texts_7 next_8 x_14 w) : WPC P 174 [] (Code.at seglog_Log_Append_B [.snd, .snd, .snd, .snd, .snd, .snd, .snd, .snd, .snd, .snd, .snd, .snd]) (topQ P [.tmp 4, .tmp 5] (.tup [I, I]) R) (mkE 174 seglog_Log_Append_l5 (l_0, entries_6, texts_7, next_8, x_14, ())) w :=
  pc_seq (l := seglog_Log_Append_l6) (F := fun (x : Option Addr × Sl × Int × Unit) => seglog_Log_Append_5 R x.1 x.2.1 x.2.2.1) (a := (Code.at seglog_Log_Append_B [.snd, .snd, .snd, .snd, .snd, .snd, .snd, .snd, .snd, .snd, .snd, .snd, .fst])) (b := (Code.at seglog_Log_Append_B [.snd, .snd, .snd, .snd, .snd, .snd, .snd, .snd, .snd, .snd, .snd, .snd, .snd])) (by kernel_rfl) (pc_cut (T := (seglog_Log_Append_6 R l_0 entries_6 texts_7 next_8 x_14) w) (l := seglog_Log_Append_l7) (F := fun (x : Option Addr × Sl × Sl × Int × Option Addr × Unit) => seglog_Log_Append_6 R x.1 x.2.1 x.2.2.1 x.2.2.2.1 x.2.2.2.2.1) (c := (Code.at seglog_Log_Append_B [.snd, .snd, .snd, .snd, .snd, .snd, .snd, .snd, .snd, .snd, .snd, .snd, .fst])) hmix 0 (mkE_len ..) (by kernel_rfl) (fun x w h => seglog_Log_Append_6_ok R x.1 x.2.1 x.2.2.1 x.2.2.2.1 x.2.2.2.2.1 w h) (by kernel_rfl) h) (fun x w h => seglog_Log_Append_5_ok R x.1 x.2.1 x.2.2.1 w h)
theorem seglog_Log_Append_3_ok (R : (Int × Int × Unit) → World → Prop) (l_0 : Option Addr) (entries_6 : Sl) (texts_7 : Sl) (next_8 : Int) (x_14 : Option Addr) (w : World) (h : seglog_Log_Append_3 R l_0 entries_6 texts_7 next_8 x_14 w) : WPC P 174 [] (Code.at seglog_Log_Append_B [.snd, .snd, .snd, .snd, .snd, .snd, .snd, .snd]) (topQ P [.tmp 4, .tmp 5] (.tup [I, I]) R) (mkE 174 seglog_Log_Append_l4 (l_0, entries_6, texts_7, next_8, x_14, ())) w :=
  pc_cut (T := seglog_Log_Append_3 R l_0 entries_6 texts_7 next_8 x_14 w) (l := seglog_Log_Append_l5) (F := fun (x : Option Addr × Sl × Sl × Int × Option Addr × Unit) => seglog_Log_Append_4 R x.1 x.2.1 x.2.2.1 x.2.2.2.1 x.2.2.2.2.1) hmix 4 (mkE_len ..) (by kernel_rfl) (fun x w h => seglog_Log_Append_4_ok R x.1 x.2.1 x.2.2.1 x.2.2.2.1 x.2.2.2.2.1 w h) (by kernel_rfl) h
theorem seglog_Log_Append_2_ok (R : (Int × Int × Unit) → World → Prop) (l_0 : Option Addr) (entries_6 : Sl) (texts_7 : Sl) (next_8 : Int) (w : World) (h : seglog_Log_Append_2 R l_0 entries_6 texts_7 next_8 w) : WPC P 174 [] (Code.at seglog_Log_Append_B [.snd, .snd, .snd, .snd, .snd, .snd]) (topQ P [.tmp 4, .tmp 5] (.tup [I, I]) R) (mkE 174 seglog_Log_Append_l3 (l_0, entries_6, texts_7, next_8, ())) w :=
  pc_cut (T := seglog_Log_Append_2 R l_0 entries_6 texts_7 next_8 w) (l := seglog_Log_Append_l4) (F := fun (x : Option Addr × Sl × Sl × Int × Option Addr × Unit) => seglog_Log_Append_3 R x.1 x.2.1 x.2.2.1 x.2.2.2.1 x.2.2.2.2.1) hmix 2 (mkE_len ..) (by kernel_rfl) (fun x w h => seglog_Log_Append_3_ok R x.1 x.2.1 x.2.2.1 x.2.2.2.1 x.2.2.2.2.1 w h) (by kernel_rfl) h
theorem seglog_Log_Append_11_ok (c1 : (Sl × Sl × Int × Int × Unit) → (Option Addr × Sl × Int × Unit) → World → Prop) (R : (Int × Int × Unit) → World → Prop) (entries_6 : Sl) (texts_7 : Sl) (next_8 : Int) (v43 : Int) (l_0 : Option Addr) (v41 : Sl) (v42 : Int) (w : World) (h : seglog_Log_Append_11 c1 R entries_6 texts_7 next_8 v43 l_0 v41 v42 w) : WPC P 174 [] (Code.at seglog_Log_Append_B [.snd, .snd, .snd, .snd, .snd, .fst, .snd, .blk, .blk]) (thenQ (fun env => getE env seglog_Log_Append_l11 fun (s : Sl × Sl × Int × Int × Unit) => getE env seglog_Log_Append_l12 (c1 s)) (blockQ 1 ((thenQ (fun env => getE env seglog_Log_Append_l3 fun (x : Option Addr × Sl × Sl × Int × Unit) => seglog_Log_Append_2 R x.1 x.2.1 x.2.2.1 x.2.2.2.1) (topQ P [.tmp 4, .tmp 5] (.tup [I, I]) R)) .normal) (thenQ (fun env => getE env seglog_Log_Append_l3 fun (x : Option Addr × Sl × Sl × Int × Unit) => seglog_Log_Append_2 R x.1 x.2.1 x.2.2.1 x.2.2.2.1) (topQ P [.tmp 4, .tmp 5] (.tup [I, I]) R)))) (mkE2 174 seglog_Log_Append_l11 seglog_Log_Append_l12 (entries_6, texts_7, next_8, v43, ()) (l_0, v41, v42, ())) w :=
  pc_end (T := seglog_Log_Append_11 c1 R entries_6 texts_7 next_8 v43 l_0 v41 v42 w) hmix (by kernel_rfl) h
theorem seglog_Log_Append_10_ok (R : (Int × Int × Unit) → World → Prop) (entries_6 : Sl) (texts_7 : Sl) (next_8 : Int) (v43 : Int) (l_0 : Option Addr) (v41 : Sl) (v42 : Int) (w : World) (h : seglog_Log_Append_10 R entries_6 texts_7 next_8 v43 l_0 v41 v42 w) : WPC P 174 [] (Code.at seglog_Log_Append_B [.snd, .snd, .snd, .snd, .snd, .fst, .snd]) (thenQ (fun env => getE env seglog_Log_Append_l3 fun (x : Option Addr × Sl × Sl × Int × Unit) => seglog_Log_Append_2 R x.1 x.2.1 x.2.2.1 x.2.2.2.1) (topQ P [.tmp 4, .tmp 5] (.tup [I, I]) R)) (mkE2 174 seglog_Log_Append_l11 seglog_Log_Append_l12 (entries_6, texts_7, next_8, v43, ()) (l_0, v41, v42, ())) w :=
  pc_loopE (l := seglog_Log_Append_l11) (l' := seglog_Log_Append_l12) (body := fun (c1 : (Sl × Sl × Int × Int × Unit) → (Option Addr × Sl × Int × Unit) → World → Prop) (s : Sl × Sl × Int × Int × Unit) => seglog_Log_Append_11 c1 R s.1 s.2.1 s.2.2.1 s.2.2.2.1 l_0 v41 v42) (id := 1) (b := (Code.at seglog_Log_Append_B [.snd, .snd, .snd, .snd, .snd, .fst, .snd, .blk, .blk])) (by kernel_rfl) (fun c1 s w h => seglog_Log_Append_11_ok c1 R s.1 s.2.1 s.2.2.1 s.2.2.2.1 l_0 v41 v42 w h) h
theorem seglog_Log_Append_9_ok (R : (Int × Int × Unit) → World → Prop) (l_0 : Option Addr) (items_1 : Sl) (entries_6 : Sl) (texts_7 : Sl) (next_8 : Int) (w : World) (h : seglog_Log_Append_9 R l_0 items_1 entries_6 texts_7 next_8 w) : WPC P 174 [] (Code.at seglog_Log_Append_B [.snd, .snd, .snd, .snd, .snd, .fst]) (thenQ (fun env => getE env seglog_Log_Append_l3 fun (x : Option Addr × Sl × Sl × Int × Unit) => seglog_Log_Append_2 R x.1 x.2.1 x.2.2.1 x.2.2.2.1) (topQ P [.tmp 4, .tmp 5] (.tup [I, I]) R)) (mkE 174 seglog_Log_Append_l10 (l_0, items_1, entries_6, texts_7, next_8, ())) w :=
  pc_cut2 (T := seglog_Log_Append_9 R l_0 items_1 entries_6 texts_7 next_8 w) (l := seglog_Log_Append_l11) (l' := seglog_Log_Append_l12) (F := fun (x : Sl × Sl × Int × Int × Unit) (y : Option Addr × Sl × Int × Unit) => seglog_Log_Append_10 R x.1 x.2.1 x.2.2.1 x.2.2.2.1 y.1 y.2.1 y.2.2.1) hmix 1 (mkE_len ..) (by kernel_rfl) (fun x y w h => seglog_Log_Append_10_ok R x.1 x.2.1 x.2.2.1 x.2.2.2.1 y.1 y.2.1 y.2.2.1 w h) (by kernel_rfl) h
theorem seglog_Log_Append_1_ok (R : (Int × Int × Unit) → World → Prop) (l_0 : Option Addr) (items_1 : Sl) (entries_6 : Sl) (texts_7 : Sl) (next_8 : Int) (w : World) (h : seglog_Log_Append_1 R l_0 items_1 entries_6 texts_7 next_8 w) : WPC P 174 [] (Code.at seglog_Log_Append_B [.snd, .snd, .snd, .snd, .snd]) (topQ P [.tmp 4, .tmp 5] (.tup [I, I]) R) (mkE 174 seglog_Log_Append_l2 (l_0, items_1, entries_6, texts_7, next_8, ())) w :=
  pc_seq (l := seglog_Log_Append_l3) (F := fun (x : Option Addr × Sl × Sl × Int × Unit) => seglog_Log_Append_2 R x.1 x.2.1 x.2.2.1 x.2.2.2.1) (a := (Code.at seglog_Log_Append_B [.snd, .snd, .snd, .snd, .snd, .fst])) (b := (Code.at seglog_Log_Append_B [.snd, .snd, .snd, .snd, .snd, .snd])) (by kernel_rfl) (pc_cut (T := (seglog_Log_Append_9 R l_0 items_1 entries_6 texts_7 next_8) w) (l := seglog_Log_Append_l10) (F := fun (x : Option Addr × Sl × Sl × Sl × Int × Unit) => seglog_Log_Append_9 R x.1 x.2.1 x.2.2.1 x.2.2.2.1 x.2.2.2.2.1) (c := (Code.at seglog_Log_Append_B [.snd, .snd, .snd, .snd, .snd, .fst])) hmix 0 (mkE_len ..) (by kernel_rfl) (fun x w h => seglog_Log_Append_9_ok R x.1 x.2.1 x.2.2.1 x.2.2.2.1 x.2.2.2.2.1 w h) (by kernel_rfl) h) (fun x w h => seglog_Log_Append_2_ok R x.1 x.2.1 x.2.2.1 x.2.2.2.1 w h)
theorem seglog_Log_Append_0_ok (R : (Int × Int × Unit) → World → Prop) (l_0 : Option Addr) (items_1 : Sl) (w : World) (h : seglog_Log_Append_0 R l_0 items_1 w) : WPC P 174 [] (Code.at seglog_Log_Append_B []) (topQ P [.tmp 4, .tmp 5] (.tup [I, I]) R) (mkE 174 seglog_Log_Append_l1 (l_0, items_1, ())) w :=
  pc_cut (T := seglog_Log_Append_0 R l_0 items_1 w) (l := seglog_Log_Append_l2) (F := fun (x : Option Addr × Sl × Sl × Sl × Int × Unit) => seglog_Log_Append_1 R x.1 x.2.1 x.2.2.1 x.2.2.2.1 x.2.2.2.2.1) hmix 5 (mkE_len ..) (by kernel_rfl) (fun x w h => seglog_Log_Append_1_ok R x.1 x.2.1 x.2.2.1 x.2.2.2.1 x.2.2.2.2.1 w h) (by kernel_rfl) h
theorem seglog_Log_Append_call (R : (Int × Int × Unit) → World → Prop) (l_0 : Option Addr) (items_1 : Sl) (w : World) (h : seglog_Log_Append_0 R l_0 items_1 w) : mcall P n_seglog_Log_Append [(.pointer l_0), (Sl.v items_1)] (.tup [I, I]) R w :=
  pc_top (T := (seglog_Log_Append_0 R l_0 items_1) w) (l := seglog_Log_Append_l1) (F := fun (x : Option Addr × Sl × Unit) => seglog_Log_Append_0 R x.1 x.2.1) (n := 174) (c := seglog_Log_Append_B) Tryz.func80 rfl (by kernel_rfl) (by kernel_rfl) (by kernel_rfl) (fun x w h => seglog_Log_Append_0_ok R x.1 x.2.1 w h) (by kernel_rfl) h
/- (*headgate seglog.Log).Sync -/
noncomputable abbrev seglog_Log_Sync_B : Code := (Tryz.f81.body).getD .skip
abbrev seglog_Log_Sync_l1 : Slots := [(0, .p)]
abbrev seglog_Log_Sync_l2 : Slots := [(0, .p)]
def seglog_Log_Sync_1 (R : Int → World → Prop) (l_0 : Option Addr) : World → Prop :=
 mnil l_0 fun a26 =>
 ld P t_api_Errno (ad a26 6) I fun (x27 : Int) =>
 R x27
def seglog_Log_Sync_0 (R : Int → World → Prop) (l_0 : Option Addr) : World → Prop :=
 meq P .eql t_ptr_seglog_Log (.pointer l_0) (.pointer none) fun (x1 : Bool) =>
 mif x1
 (R 1)
 (mnil l_0 fun a2 =>
 ld P t_api_Errno (ad a2 6) I fun (x3 : Int) =>
 mif (x3 != 0)
 (mnil l_0 fun a4 =>
 ld P t_api_Errno (ad a4 6) I fun (x5 : Int) =>
 R x5)
 (mnil l_0 fun a6 =>
 ld P t_sl_seglog_segment (ad a6 2) .sl fun (x7 : Sl) =>
 mif ((x7.len : Int) == 0)
 (mnil l_0 fun a8 =>
 ld P t_api_Errno (ad a8 6) I fun (x9 : Int) =>
 R x9)
 (mdraw <|
 mnil l_0 fun a10 =>
 ld P t_ptr_disk_Disk a10 .p fun (x11 : Option Addr) =>
 mnil l_0 fun a12 =>
 ld P t_sl_seglog_segment (ad a12 2) .sl fun (x13 : Sl) =>
 mnil l_0 fun a14 =>
 ld P t_sl_seglog_segment (ad a14 2) .sl fun (x15 : Sl) =>
 ixa P t_sl_seglog_segment (Sl.v x13) (w64 ((x15.len : Int) - 1)) fun (x16 : Addr) =>
 ld P t_int x16 I fun (x17 : Int) =>
 mcall P n_seglog_Log_file [(.pointer l_0), (.int .i64 x17)] .s fun (x18 : Bs) =>
 mst P (Instr.loadAt t_ptr_disk_Disk (.pointer (some a10))) (.pointer x11) <|
 mcall P n_disk_Disk_Sync [(.pointer x11), (.string ⟨x18.toArray⟩)] I fun (x19 : Int) =>
 mnil l_0 fun a20 =>
 sto P t_api_Errno (ad a20 6) I x19 <|
 mnil l_0 fun a21 =>
 ld P t_api_Errno (ad a21 6) I fun (x22 : Int) =>
 mif (x22 == 0)
 (mnil l_0 fun a23 =>
 ld P t_int (ad a23 4) I fun (x24 : Int) =>
 mnil l_0 fun a25 =>
 sto P t_int (ad a25 5) I x24 <|
 seglog_Log_Sync_1 R l_0)
 (seglog_Log_Sync_1 R l_0))))
theorem seglog_Log_Sync_1_ok (R : Int → World → Prop) (l_0 : Option Addr) (w : World) (h : seglog_Log_Sync_1 R l_0 w) : WPC P 64 [] (Code.at seglog_Log_Sync_B [.snd, .snd, .snd]) (topQ P [.tmp 2] I R) (mkE 64 seglog_Log_Sync_l2 (l_0, ())) w :=
  pc_end (T := seglog_Log_Sync_1 R l_0 w) hmix (by kernel_rfl) h
theorem seglog_Log_Sync_0_ok (R : Int → World → Prop) (l_0 : Option Addr) (w : World) (h : seglog_Log_Sync_0 R l_0 w) : WPC P 64 [] (Code.at seglog_Log_Sync_B []) (topQ P [.tmp 2] I R) (mkE 64 seglog_Log_Sync_l1 (l_0, ())) w :=
  pc_cut (T := seglog_Log_Sync_0 R l_0 w) (l := seglog_Log_Sync_l2) (F := fun (x : Option Addr × Unit) => seglog_Log_Sync_1 R x.1) hmix 3 (mkE_len ..) (by kernel_rfl) (fun x w h => seglog_Log_Sync_1_ok R x.1 w h) (by kernel_rfl) h
theorem seglog_Log_Sync_call (R : Int → World → Prop) (l_0 : Option Addr) (w : World) (h : seglog_Log_Sync_0 R l_0 w) : mcall P n_seglog_Log_Sync [(.pointer l_0)] I R w :=
  pc_top (T := (seglog_Log_Sync_0 R l_0) w) (l := seglog_Log_Sync_l1) (F := fun (x : Option Addr × Unit) => seglog_Log_Sync_0 R x.1) (n := 64) (c := seglog_Log_Sync_B) Tryz.func81 rfl (by kernel_rfl) (by kernel_rfl) (by kernel_rfl) (fun x w h => seglog_Log_Sync_0_ok R x.1 w h) (by kernel_rfl) h
/- slices.IndexFunc[[]int,int] -/
noncomputable abbrev slices_IndexFunc_sl_int_int_B : Code := (Tryz.f84.body).getD .skip
abbrev slices_IndexFunc_sl_int_int_l1 : Slots := [(0, .sl), (1, .v)]
abbrev slices_IndexFunc_sl_int_int_l2 : Slots := [(0, .sl), (1, .v)]
abbrev slices_IndexFunc_sl_int_int_l3 : Slots := []
def slices_IndexFunc_sl_int_int_2 (R : Int → World → Prop) : World → Prop :=
 R (-1)
abbrev slices_IndexFunc_sl_int_int_l4 : Slots := [(0, .sl), (1, .v)]
abbrev slices_IndexFunc_sl_int_int_l5 : Slots := [(8, I)]
abbrev slices_IndexFunc_sl_int_int_l6 : Slots := [(0, .sl), (1, .v), (7, I)]
def slices_IndexFunc_sl_int_int_5 (c1 : (Int × Unit) → (Sl × Value × Int × Unit) → World → Prop) (R : Int → World → Prop) (v8 : Int) (s_0 : Sl) (f_1 : Value) (v7 : Int) : World → Prop :=
 mif (decide (v8 < v7))
 (ixa P t_sl_int (Sl.v s_0) v8 fun (x1 : Addr) =>
 ld P t_int x1 I fun (x2 : Int) =>
 mdyn P f_1 [.int .i64 x2] .b fun (x3 : Bool) =>
 mif x3
 (R v8)
 (c1 (w64 (v8 + 1), ()) (s_0, f_1, v7, ())))
 (slices_IndexFunc_sl_int_int_2 R)
def slices_IndexFunc_sl_int_int_4 (R : Int → World → Prop) (v8 : Int) (s_0 : Sl) (f_1 : Value) (v7 : Int) : World → Prop :=
 W.Loop (s_0, f_1, v7, ()) (fun (c1 : (Int × Unit) → (Sl × Value × Int × Unit) → World → Prop) (s : Int × Unit) => slices_IndexFunc_sl_int_int_5 c1 R s.1 s_0 f_1 v7) (v8, ())
def slices_IndexFunc_sl_int_int_3 (R : Int → World → Prop) (s_0 : Sl) (f_1 : Value) : World → Prop :=
 slices_IndexFunc_sl_int_int_4 R 0 s_0 f_1 (s_0.len : Int)
def slices_IndexFunc_sl_int_int_1 (R : Int → World → Prop) (s_0 : Sl) (f_1 : Value) : World → Prop :=
 slices_IndexFunc_sl_int_int_3 R s_0 f_1
def slices_IndexFunc_sl_int_int_0 (R : Int → World → Prop) (s_0 : Sl) (f_1 : Value) : World → Prop :=
 slices_IndexFunc_sl_int_int_1 R s_0 f_1
theorem slices_IndexFunc_sl_int_int_2_ok (R : Int → World → Prop) (w : World) (h : slices_IndexFunc_sl_int_int_2 R w) : WPC P 19 [] (Code.at slices_IndexFunc_sl_int_int_B [.snd, .snd]) (topQ P [.tmp 4] I R) (mkE 19 slices_IndexFunc_sl_int_int_l3 (())) w :=
  pc_end (T := slices_IndexFunc_sl_int_int_2 R w) hmix (by kernel_rfl) h
theorem slices_IndexFunc_sl_int_int_5_ok (c1 : (Int × Unit) → (Sl × Value × Int × Unit) → World → Prop) (R : Int → World → Prop) (v8 : Int) (s_0 : Sl) (f_1 : Value) (v7 : Int) (w : World) (h : slices_IndexFunc_sl_int_int_5 c1 R v8 s_0 f_1 v7 w) : WPC P 19 [] (Code.at slices_IndexFunc_sl_int_int_B [.snd, .fst, .snd, .blk, .blk]) (thenQ (fun env => getE env slices_IndexFunc_sl_int_int_l5 fun (s : Int × Unit) => getE env slices_IndexFunc_sl_int_int_l6 (c1 s)) (blockQ 0 ((thenQ (fun env => getE env slices_IndexFunc_sl_int_int_l3 fun (x : Unit) => slices_IndexFunc_sl_int_int_2 R) (topQ P [.tmp 4] I R)) .normal) (thenQ (fun env => getE env slices_IndexFunc_sl_int_int_l3 fun (x : Unit) => slices_IndexFunc_sl_int_int_2 R) (topQ P [.tmp 4] I R)))) (mkE2 19 slices_IndexFunc_sl_int_int_l5 slices_IndexFunc_sl_int_int_l6 (v8, ()) (s_0, f_1, v7, ())) w :=
  pc_end (T := slices_IndexFunc_sl_int_int_5 c1 R v8 s_0 f_1 v7 w) hmix (by kernel_rfl) h
theorem slices_IndexFunc_sl_int_int_4_ok (R : Int → World → Prop) (v8 : Int) (s_0 : Sl) (f_1 : Value) (v7 : Int) (w : World) (h : slices_IndexFunc_sl_int_int_4 R v8 s_0 f_1 v7 w) : WPC P 19 [] (Code.at slices_IndexFunc_sl_int_int_B [.snd, .fst, .snd]) (thenQ (fun env => getE env slices_IndexFunc_sl_int_int_l3 fun (x : Unit) => slices_IndexFunc_sl_int_int_2 R) (topQ P [.tmp 4] I R)) (mkE2 19 slices_IndexFunc_sl_int_int_l5 slices_IndexFunc_sl_int_int_l6 (v8, ()) (s_0, f_1, v7, ())) w :=
  pc_loopE (l := slices_IndexFunc_sl_int_int_l5) (l' := slices_IndexFunc_sl_int_int_l6) (body := fun (c1 : (Int × Unit) → (Sl × Value × Int × Unit) → World → Prop) (s : Int × Unit) => slices_IndexFunc_sl_int_int_5 c1 R s.1 s_0 f_1 v7) (id := 0) (b := (Code.at slices_IndexFunc_sl_int_int_B [.snd, .fst, .snd, .blk, .blk])) (by kernel_rfl) (fun c1 s w h => slices_IndexFunc_sl_int_int_5_ok c1 R s.1 s_0 f_1 v7 w h) h
theorem slices_IndexFunc_sl_int_int_3_ok (R : Int → World → Prop) (s_0 : Sl) (f_1 : Value) (w : World) (h : slices_IndexFunc_sl_int_int_3 R s_0 f_1 w) : WPC P 19 [] (Code.at slices_IndexFunc_sl_int_int_B [.snd, .fst]) (thenQ (fun env => getE env slices_IndexFunc_sl_int_int_l3 fun (x : Unit) => slices_IndexFunc_sl_int_int_2 R) (topQ P [.tmp 4] I R)) (mkE 19 slices_IndexFunc_sl_int_int_l4 (s_0, f_1, ())) w :=
  pc_cut2 (T := slices_IndexFunc_sl_int_int_3 R s_0 f_1 w) (l := slices_IndexFunc_sl_int_int_l5) (l' := slices_IndexFunc_sl_int_int_l6) (F := fun (x : Int × Unit) (y : Sl × Value × Int × Unit) => slices_IndexFunc_sl_int_int_4 R x.1 y.1 y.2.1 y.2.2.1) hmix 1 (mkE_len ..) (by kernel_rfl) (fun x y w h => slices_IndexFunc_sl_int_int_4_ok R x.1 y.1 y.2.1 y.2.2.1 w h) (by kernel_rfl) h
theorem slices_IndexFunc_sl_int_int_1_ok (R : Int → World → Prop) (s_0 : Sl) (f_1 : Value) (w : World) (h : slices_IndexFunc_sl_int_int_1 R s_0 f_1 w) : WPC P 19 [] (Code.at slices_IndexFunc_sl_int_int_B [.snd]) (topQ P [.tmp 4] I R) (mkE 19 slices_IndexFunc_sl_int_int_l2 (s_0, f_1, ())) w :=
  pc_seq (l := slices_IndexFunc_sl_int_int_l3) (F := fun (x : Unit) => slices_IndexFunc_sl_int_int_2 R) (a := (Code.at slices_IndexFunc_sl_int_int_B [.snd, .fst])) (b := (Code.at slices_IndexFunc_sl_int_int_B [.snd, .snd])) (by kernel_rfl) (pc_cut (T := (slices_IndexFunc_sl_int_int_3 R s_0 f_1) w) (l := slices_IndexFunc_sl_int_int_l4) (F := fun (x : Sl × Value × Unit) => slices_IndexFunc_sl_int_int_3 R x.1 x.2.1) (c := (Code.at slices_IndexFunc_sl_int_int_B [.snd, .fst])) hmix 0 (mkE_len ..) (by kernel_rfl) (fun x w h => slices_IndexFunc_sl_int_int_3_ok R x.1 x.2.1 w h) (by kernel_rfl) h) (fun x w h => slices_IndexFunc_sl_int_int_2_ok R w h)
theorem slices_IndexFunc_sl_int_int_0_ok (R : Int → World → Prop) (s_0 : Sl) (f_1 : Value) (w : World) (h : slices_IndexFunc_sl_int_int_0 R s_0 f_1 w) : WPC P 19 [] (Code.at slices_IndexFunc_sl_int_int_B []) (topQ P [.tmp 4] I R) (mkE 19 slices_IndexFunc_sl_int_int_l1 (s_0, f_1, ())) w :=
  pc_cut (T := slices_IndexFunc_sl_int_int_0 R s_0 f_1 w) (l := slices_IndexFunc_sl_int_int_l2) (F := fun (x : Sl × Value × Unit) => slices_IndexFunc_sl_int_int_1 R x.1 x.2.1) hmix 1 (mkE_len ..) (by kernel_rfl) (fun x w h => slices_IndexFunc_sl_int_int_1_ok R x.1 x.2.1 w h) (by kernel_rfl) h
theorem slices_IndexFunc_sl_int_int_call (R : Int → World → Prop) (s_0 : Sl) (f_1 : Value) (w : World) (h : slices_IndexFunc_sl_int_int_0 R s_0 f_1 w) : mcall P n_slices_IndexFunc_sl_int_int [(Sl.v s_0), f_1] I R w :=
  pc_top (T := (slices_IndexFunc_sl_int_int_0 R s_0 f_1) w) (l := slices_IndexFunc_sl_int_int_l1) (F := fun (x : Sl × Value × Unit) => slices_IndexFunc_sl_int_int_0 R x.1 x.2.1) (n := 19) (c := slices_IndexFunc_sl_int_int_B) Tryz.func84 rfl (by kernel_rfl) (by kernel_rfl) (by kernel_rfl) (fun x w h => slices_IndexFunc_sl_int_int_0_ok R x.1 x.2.1 w h) (by kernel_rfl) h
/- (headgate crc.register).step -/
noncomputable abbrev crc_register_step_B : Code := (Tryz.f85.body).getD .skip
abbrev crc_register_step_l1 : Slots := [(0, (.i .u32))]
def crc_register_step_0 (R : Int → World → Prop) (r_0 : Int) : World → Prop :=
 mif ((iand .u32 r_0 1) == 1)
 (R (ixor .u32 (ishr .u32 r_0 1) 2197175160))
 (R (ishr .u32 r_0 1))
theorem crc_register_step_0_ok (R : Int → World → Prop) (r_0 : Int) (w : World) (h : crc_register_step_0 R r_0 w) : WPC P 11 [] (Code.at crc_register_step_B []) (topQ P [.tmp 2] (.i .u32) R) (mkE 11 crc_register_step_l1 (r_0, ())) w :=
  pc_end (T := crc_register_step_0 R r_0 w) hmix (by kernel_rfl) h
theorem crc_register_step_call (R : Int → World → Prop) (r_0 : Int) (w : World) (h : crc_register_step_0 R r_0 w) : mcall P n_crc_register_step [(.int .u32 r_0)] (.i .u32) R w :=
  pc_top (T := (crc_register_step_0 R r_0) w) (l := crc_register_step_l1) (F := fun (x : Int × Unit) => crc_register_step_0 R x.1) (n := 11) (c := crc_register_step_B) Tryz.func85 rfl (by kernel_rfl) (by kernel_rfl) (by kernel_rfl) (fun x w h => crc_register_step_0_ok R x.1 w h) (by kernel_rfl) h
/- strings.Trim -/
noncomputable abbrev strings_Trim_B : Code := (Tryz.f86.body).getD .skip
abbrev strings_Trim_l1 : Slots := [(0, .s), (1, .s)]
abbrev strings_Trim_l2 : Slots := [(0, .s), (1, .s)]
def strings_Trim_1 (R : Bs → World → Prop) (s_0 : Bs) (cutset_1 : Bs) : World → Prop :=
 mcall P n_strings_makeASCIISet [(.string ⟨cutset_1.toArray⟩)] (.tup [k_arr256_bool, .b]) fun (x6 : T_arr256_bool × Bool × Unit) =>
 alo P t_strings_asciiSet fun a7 =>
 sto P t_strings_asciiSet a7 k_arr256_bool x6.1 <|
 mif x6.2.1
 (mcall P n_strings_trimRightASCII [(.string ⟨s_0.toArray⟩), (.pointer (some a7))] .s fun (x8 : Bs) =>
 mcall P n_strings_trimLeftASCII [(.string ⟨x8.toArray⟩), (.pointer (some a7))] .s fun (x9 : Bs) =>
 R x9)
 (mcall P n_strings_trimRightUnicode [(.string ⟨s_0.toArray⟩), (.string ⟨cutset_1.toArray⟩)] .s fun (x10 : Bs) =>
 mcall P n_strings_trimLeftUnicode [(.string ⟨x10.toArray⟩), (.string ⟨cutset_1.toArray⟩)] .s fun (x11 : Bs) =>
 R x11)
def strings_Trim_0 (R : Bs → World → Prop) (s_0 : Bs) (cutset_1 : Bs) : World → Prop :=
 mif (s_0 == [])
 (R s_0)
 (mif (cutset_1 == [])
 (R s_0)
 (mif ((cutset_1.length : Int) == 1)
 (ixs P t_string cutset_1 0 fun (x1 : Int) =>
 mif (decide (x1 < 128))
 (mdraw <|
 ixs P t_string cutset_1 0 fun (x2 : Int) =>
 ixs P t_string cutset_1 0 fun (x3 : Int) =>
 mcall P n_strings_trimRightByte [(.string ⟨s_0.toArray⟩), (.int .u8 x2)] .s fun (x4 : Bs) =>
 mst P (Instr.index t_string (.string ⟨cutset_1.toArray⟩) (.int .i64 0)) (.int .u8 x3) <|
 mcall P n_strings_trimLeftByte [(.string ⟨x4.toArray⟩), (.int .u8 x3)] .s fun (x5 : Bs) =>
 R x5)
 (strings_Trim_1 R s_0 cutset_1))
 (strings_Trim_1 R s_0 cutset_1)))
theorem strings_Trim_1_ok (R : Bs → World → Prop) (s_0 : Bs) (cutset_1 : Bs) (w : World) (h : strings_Trim_1 R s_0 cutset_1 w) : WPC P 43 [] (Code.at strings_Trim_B [.snd, .snd, .snd]) (topQ P [.tmp 4] .s R) (mkE 43 strings_Trim_l2 (s_0, cutset_1, ())) w :=
  pc_end (T := strings_Trim_1 R s_0 cutset_1 w) hmix (by kernel_rfl) h
theorem strings_Trim_0_ok (R : Bs → World → Prop) (s_0 : Bs) (cutset_1 : Bs) (w : World) (h : strings_Trim_0 R s_0 cutset_1 w) : WPC P 43 [] (Code.at strings_Trim_B []) (topQ P [.tmp 4] .s R) (mkE 43 strings_Trim_l1 (s_0, cutset_1, ())) w :=
  pc_cut (T := strings_Trim_0 R s_0 cutset_1 w) (l := strings_Trim_l2) (F := fun (x : Bs × Bs × Unit) => strings_Trim_1 R x.1 x.2.1) hmix 3 (mkE_len ..) (by kernel_rfl) (fun x w h => strings_Trim_1_ok R x.1 x.2.1 w h) (by kernel_rfl) h
theorem strings_Trim_call (R : Bs → World → Prop) (s_0 : Bs) (cutset_1 : Bs) (w : World) (h : strings_Trim_0 R s_0 cutset_1 w) : mcall P n_strings_Trim [(.string ⟨s_0.toArray⟩), (.string ⟨cutset_1.toArray⟩)] .s R w :=
  pc_top (T := (strings_Trim_0 R s_0 cutset_1) w) (l := strings_Trim_l1) (F := fun (x : Bs × Bs × Unit) => strings_Trim_0 R x.1 x.2.1) (n := 43) (c := strings_Trim_B) Tryz.func86 rfl (by kernel_rfl) (by kernel_rfl) (by kernel_rfl) (fun x w h => strings_Trim_0_ok R x.1 x.2.1 w h) (by kernel_rfl) h
/- slices.Sorted[string] -/
noncomputable abbrev slices_Sorted_string_B : Code := (Tryz.f87.body).getD .skip
abbrev slices_Sorted_string_l1 : Slots := [(0, .v)]
def slices_Sorted_string_0 (R : Sl → World → Prop) (seq_0 : Value) : World → Prop :=
 mcall P n_slices_Collect_string [seq_0] .sl fun (x1 : Sl) =>
 mcall P n_slices_Sort_sl_string_string [(Sl.v x1)] (.tup []) fun (x2 : Unit) =>
 R x1
theorem slices_Sorted_string_0_ok (R : Sl → World → Prop) (seq_0 : Value) (w : World) (h : slices_Sorted_string_0 R seq_0 w) : WPC P 9 [] (Code.at slices_Sorted_string_B []) (topQ P [.tmp 2] .sl R) (mkE 9 slices_Sorted_string_l1 (seq_0, ())) w :=
  pc_end (T := slices_Sorted_string_0 R seq_0 w) hmix (by kernel_rfl) h
theorem slices_Sorted_string_call (R : Sl → World → Prop) (seq_0 : Value) (w : World) (h : slices_Sorted_string_0 R seq_0 w) : mcall P n_slices_Sorted_string [seq_0] .sl R w :=
  pc_top (T := (slices_Sorted_string_0 R seq_0) w) (l := slices_Sorted_string_l1) (F := fun (x : Value × Unit) => slices_Sorted_string_0 R x.1) (n := 9) (c := slices_Sorted_string_B) Tryz.func87 rfl (by kernel_rfl) (by kernel_rfl) (by kernel_rfl) (fun x w h => slices_Sorted_string_0_ok R x.1 w h) (by kernel_rfl) h
/- maps.Keys[map[string]*headgate disk.file,string,*headgate disk.file] -/
noncomputable abbrev maps_Keys_map_string_disk_file_string_disk_file_B : Code := (Tryz.f88.body).getD .skip
abbrev maps_Keys_map_string_disk_file_string_disk_file_l1 : Slots := [(0, .m)]
def maps_Keys_map_string_disk_file_string_disk_file_0 (R : Value → World → Prop) (m_0 : Option Nat) : World → Prop :=
 bx P t_map_string_ptr_disk_file .m m_0 fun a1 =>
 R (.func (.func n_maps_Keys_map_string_disk_file_string_disk_file__c1) #[] #[.pointer (some a1)])
theorem maps_Keys_map_string_disk_file_string_disk_file_0_ok (R : Value → World → Prop) (m_0 : Option Nat) (w : World) (h : maps_Keys_map_string_disk_file_string_disk_file_0 R m_0 w) : WPC P 4 [] (Code.at maps_Keys_map_string_disk_file_string_disk_file_B []) (topQ P [.tmp 2] .v R) (mkE 4 maps_Keys_map_string_disk_file_string_disk_file_l1 (m_0, ())) w :=
  pc_end (T := maps_Keys_map_string_disk_file_string_disk_file_0 R m_0 w) hmix (by kernel_rfl) h
theorem maps_Keys_map_string_disk_file_string_disk_file_call (R : Value → World → Prop) (m_0 : Option Nat) (w : World) (h : maps_Keys_map_string_disk_file_string_disk_file_0 R m_0 w) : mcall P n_maps_Keys_map_string_disk_file_string_disk_file [(.map m_0)] .v R w :=
  pc_top (T := (maps_Keys_map_string_disk_file_string_disk_file_0 R m_0) w) (l := maps_Keys_map_string_disk_file_string_disk_file_l1) (F := fun (x : Option Nat × Unit) => maps_Keys_map_string_disk_file_string_disk_file_0 R x.1) (n := 4) (c := maps_Keys_map_string_disk_file_string_disk_file_B) Tryz.func88 rfl (by kernel_rfl) (by kernel_rfl) (by kernel_rfl) (fun x w h => maps_Keys_map_string_disk_file_string_disk_file_0_ok R x.1 w h) (by kernel_rfl) h
/- (*headgate seglog.segment).took -/
noncomputable abbrev seglog_segment_took_B : Code := (Tryz.f90.body).getD .skip
abbrev seglog_segment_took_l1 : Slots := [(0, .p), (1, k_api_Record), (2, I)]
abbrev seglog_segment_took_l2 : Slots := [(0, .p), (2, I)]
def seglog_segment_took_1 (R : Unit → World → Prop) (s_0 : Option Addr) (bytes_2 : Int) : World → Prop :=
 mnil s_0 fun a30 =>
 ld P t_int (ad a30 1) I fun (x31 : Int) =>
 mnil s_0 fun a32 =>
 sto P t_int (ad a32 1) I (w64 (x31 + bytes_2)) <|
 mnil s_0 fun a33 =>
 ld P t_int (ad a33 2) I fun (x34 : Int) =>
 mnil s_0 fun a35 =>
 sto P t_int (ad a35 2) I (w64 (x34 + 1)) <|
 R (())
def seglog_segment_took_0 (R : Unit → World → Prop) (s_0 : Option Addr) (e_1 : T_api_Record) (bytes_2 : Int) : World → Prop :=
 bx P t_api_Entry k_api_Record e_1 fun a1 =>
 mnil s_0 fun a2 =>
 ld P t_sl_api_Mark (ad a2 3) .sl fun (x3 : Sl) =>
 mdraw <|
 mif ((x3.len : Int) == 0)
 (mdraw <|
 mnil s_0 fun a4 =>
 ld P t_sl_api_Mark (ad a4 3) .sl fun (x5 : Sl) =>
 ld P t_int a1 I fun (x6 : Int) =>
 mnil s_0 fun a7 =>
 ld P t_int a7 I fun (x8 : Int) =>
 mnil s_0 fun a9 =>
 ld P t_int (ad a9 1) I fun (x10 : Int) =>
 bsl P t_sl_api_Mark k_api_Seg [(x6, x8, x10, ())] fun x11 =>
 mst P (Instr.loadAt t_sl_api_Mark (.pointer (some (ad a4 3)))) (.slice x5.a x5.len x5.cap) <|
 app P #[t_sl_api_Mark, t_sl_api_Mark] t_sl_api_Mark (Sl.v x5) (Sl.v x11) fun (x12 : Sl) =>
 mnil s_0 fun a13 =>
 sto P t_sl_api_Mark (ad a13 3) .sl x12 <|
 seglog_segment_took_1 R s_0 bytes_2)
 (mnil s_0 fun a14 =>
 ld P t_int (ad a14 1) I fun (x15 : Int) =>
 mnil s_0 fun a16 =>
 ld P t_sl_api_Mark (ad a16 3) .sl fun (x17 : Sl) =>
 ixa P t_sl_api_Mark (Sl.v x17) (w64 ((x3.len : Int) - 1)) fun (x18 : Addr) =>
 ld P t_int (ad x18 2) I fun (x19 : Int) =>
 mif (decide ((w64 (x15 - x19)) ≥ 256))
 (mdraw <|
 mnil s_0 fun a20 =>
 ld P t_sl_api_Mark (ad a20 3) .sl fun (x21 : Sl) =>
 ld P t_int a1 I fun (x22 : Int) =>
 mnil s_0 fun a23 =>
 ld P t_int a23 I fun (x24 : Int) =>
 mnil s_0 fun a25 =>
 ld P t_int (ad a25 1) I fun (x26 : Int) =>
 bsl P t_sl_api_Mark k_api_Seg [(x22, x24, x26, ())] fun x27 =>
 mst P (Instr.loadAt t_sl_api_Mark (.pointer (some (ad a20 3)))) (.slice x21.a x21.len x21.cap) <|
 app P #[t_sl_api_Mark, t_sl_api_Mark] t_sl_api_Mark (Sl.v x21) (Sl.v x27) fun (x28 : Sl) =>
 mnil s_0 fun a29 =>
 sto P t_sl_api_Mark (ad a29 3) .sl x28 <|
 seglog_segment_took_1 R s_0 bytes_2)
 (seglog_segment_took_1 R s_0 bytes_2))
theorem seglog_segment_took_1_ok (R : Unit → World → Prop) (s_0 : Option Addr) (bytes_2 : Int) (w : World) (h : seglog_segment_took_1 R s_0 bytes_2 w) : WPC P 73 [] (Code.at seglog_segment_took_B [.snd, .snd]) (topQ P [] (.tup []) R) (mkE 73 seglog_segment_took_l2 (s_0, bytes_2, ())) w :=
  pc_end (T := seglog_segment_took_1 R s_0 bytes_2 w) hmix (by kernel_rfl) h
theorem seglog_segment_took_0_ok (R : Unit → World → Prop) (s_0 : Option Addr) (e_1 : T_api_Record) (bytes_2 : Int) (w : World) (h : seglog_segment_took_0 R s_0 e_1 bytes_2 w) : WPC P 73 [] (Code.at seglog_segment_took_B []) (topQ P [] (.tup []) R) (mkE 73 seglog_segment_took_l1 (s_0, e_1, bytes_2, ())) w :=
  pc_cut (T := seglog_segment_took_0 R s_0 e_1 bytes_2 w) (l := seglog_segment_took_l2) (F := fun (x : Option Addr × Int × Unit) => seglog_segment_took_1 R x.1 x.2.1) hmix 2 (mkE_len ..) (by kernel_rfl) (fun x w h => seglog_segment_took_1_ok R x.1 x.2.1 w h) (by kernel_rfl) h
theorem seglog_segment_took_call (R : Unit → World → Prop) (s_0 : Option Addr) (e_1 : T_api_Record) (bytes_2 : Int) (w : World) (h : seglog_segment_took_0 R s_0 e_1 bytes_2 w) : mcall P n_seglog_segment_took [(.pointer s_0), (KV k_api_Record e_1), (.int .i64 bytes_2)] (.tup []) R w :=
  pc_top (T := (seglog_segment_took_0 R s_0 e_1 bytes_2) w) (l := seglog_segment_took_l1) (F := fun (x : Option Addr × T_api_Record × Int × Unit) => seglog_segment_took_0 R x.1 x.2.1 x.2.2.1) (n := 73) (c := seglog_segment_took_B) Tryz.func90 rfl (by kernel_rfl) (by kernel_rfl) (by kernel_rfl) (fun x w h => seglog_segment_took_0_ok R x.1 x.2.1 x.2.2.1 w h) (by kernel_rfl) h
end Go.Proofs.YtegjokkkdkaphaaGreatDoor
