/- Short texts of functions of the program, each with the proof that a call comes to it. No condition. -/
import Derived.Test.YtegjokkkdkaphaaGreatDoorNames
set_option linter.unusedVariables false
set_option linter.unusedSimpArgs false
namespace Go.Proofs.YtegjokkkdkaphaaGreatDoor
open Go Go.W
set_option maxRecDepth 100000
/- (*headgate part.Part).took -/
noncomputable abbrev part_Part_took_B : Code := (Tryz.f50.body).getD .skip
abbrev part_Part_took_l1 : Slots := [(0, .p), (1, k_api_Batch), (2, I)]
def part_Part_took_0 (R : Unit → World → Prop) (p_0 : Option Addr) (b_1 : T_api_Batch) (base_2 : Int) : World → Prop :=
 bx P t_api_Batch k_api_Batch b_1 fun a1 =>
 mdraw <|
 mnil p_0 fun a2 =>
 ld P t_sl_api_Prod (ad a2 1) .sl fun (x3 : Sl) =>
 ld P t_api_Batch a1 k_api_Batch fun (x4 : T_api_Batch) =>
 mcall P n_dedup_Note [(Sl.v x3), (KV k_api_Batch x4), (.int .i64 base_2)] .sl fun (x5 : Sl) =>
 mnil p_0 fun a6 =>
 sto P t_sl_api_Prod (ad a6 1) .sl x5 <|
 ld P t_int (ad a1 1) I fun (x7 : Int) =>
 mcall P n_part_Part_find [(.pointer p_0), (.int .i64 x7)] I fun (x8 : Int) =>
 ld P t_int a1 I fun (x9 : Int) =>
 mif (x9 == 2)
 (mif (decide (x8 < 0))
 (mdraw <|
 mnil p_0 fun a10 =>
 ld P t_sl_api_Open (ad a10 2) .sl fun (x11 : Sl) =>
 ld P t_int (ad a1 1) I fun (x12 : Int) =>
 bsl P t_sl_api_Open k_api_Open [(x12, base_2, ())] fun x13 =>
 mst P (Instr.loadAt t_sl_api_Open (.pointer (some (ad a10 2)))) (.slice x11.a x11.len x11.cap) <|
 app P #[t_sl_api_Open, t_sl_api_Open] t_sl_api_Open (Sl.v x11) (Sl.v x13) fun (x14 : Sl) =>
 mnil p_0 fun a15 =>
 sto P t_sl_api_Open (ad a15 2) .sl x14 <|
 R (()))
 (ld P t_int a1 I fun (x16 : Int) =>
 mif (x16 == 4)
 (mif (decide (x8 ≥ 0))
 (mdraw <|
 mnil p_0 fun a17 =>
 ld P t_sl_api_Gone (ad a17 3) .sl fun (x18 : Sl) =>
 ld P t_int (ad a1 1) I fun (x19 : Int) =>
 mnil p_0 fun a20 =>
 ld P t_sl_api_Open (ad a20 2) .sl fun (x21 : Sl) =>
 ixa P t_sl_api_Open (Sl.v x21) x8 fun (x22 : Addr) =>
 ld P t_int (ad x22 1) I fun (x23 : Int) =>
 bsl P t_sl_api_Gone k_api_Seg [(x19, x23, base_2, ())] fun x24 =>
 mst P (Instr.loadAt t_sl_api_Gone (.pointer (some (ad a17 3)))) (.slice x18.a x18.len x18.cap) <|
 app P #[t_sl_api_Gone, t_sl_api_Gone] t_sl_api_Gone (Sl.v x18) (Sl.v x24) fun (x25 : Sl) =>
 mnil p_0 fun a26 =>
 sto P t_sl_api_Gone (ad a26 3) .sl x25 <|
 mnil p_0 fun a27 =>
 ld P t_sl_api_Open (ad a27 2) .sl fun (x28 : Sl) =>
 mcall P n_slices_Delete_sl_api_Open_api_Open [(Sl.v x28), (.int .i64 x8), (.int .i64 (w64 (x8 + 1)))] .sl fun (x29 : Sl) =>
 mnil p_0 fun a30 =>
 sto P t_sl_api_Open (ad a30 2) .sl x29 <|
 R (()))
 (ld P t_int a1 I fun (x31 : Int) =>
 mif (x31 == 3)
 (mif (decide (x8 ≥ 0))
 (mnil p_0 fun a32 =>
 ld P t_sl_api_Open (ad a32 2) .sl fun (x33 : Sl) =>
 mcall P n_slices_Delete_sl_api_Open_api_Open [(Sl.v x33), (.int .i64 x8), (.int .i64 (w64 (x8 + 1)))] .sl fun (x34 : Sl) =>
 mnil p_0 fun a35 =>
 sto P t_sl_api_Open (ad a35 2) .sl x34 <|
 R (()))
 (R (())))
 (R (()))))
 (ld P t_int a1 I fun (x36 : Int) =>
 mif (x36 == 3)
 (mif (decide (x8 ≥ 0))
 (mnil p_0 fun a37 =>
 ld P t_sl_api_Open (ad a37 2) .sl fun (x38 : Sl) =>
 mcall P n_slices_Delete_sl_api_Open_api_Open [(Sl.v x38), (.int .i64 x8), (.int .i64 (w64 (x8 + 1)))] .sl fun (x39 : Sl) =>
 mnil p_0 fun a40 =>
 sto P t_sl_api_Open (ad a40 2) .sl x39 <|
 R (()))
 (R (())))
 (R (())))))
 (ld P t_int a1 I fun (x41 : Int) =>
 mif (x41 == 4)
 (mif (decide (x8 ≥ 0))
 (mdraw <|
 mnil p_0 fun a42 =>
 ld P t_sl_api_Gone (ad a42 3) .sl fun (x43 : Sl) =>
 ld P t_int (ad a1 1) I fun (x44 : Int) =>
 mnil p_0 fun a45 =>
 ld P t_sl_api_Open (ad a45 2) .sl fun (x46 : Sl) =>
 ixa P t_sl_api_Open (Sl.v x46) x8 fun (x47 : Addr) =>
 ld P t_int (ad x47 1) I fun (x48 : Int) =>
 bsl P t_sl_api_Gone k_api_Seg [(x44, x48, base_2, ())] fun x49 =>
 mst P (Instr.loadAt t_sl_api_Gone (.pointer (some (ad a42 3)))) (.slice x43.a x43.len x43.cap) <|
 app P #[t_sl_api_Gone, t_sl_api_Gone] t_sl_api_Gone (Sl.v x43) (Sl.v x49) fun (x50 : Sl) =>
 mnil p_0 fun a51 =>
 sto P t_sl_api_Gone (ad a51 3) .sl x50 <|
 mnil p_0 fun a52 =>
 ld P t_sl_api_Open (ad a52 2) .sl fun (x53 : Sl) =>
 mcall P n_slices_Delete_sl_api_Open_api_Open [(Sl.v x53), (.int .i64 x8), (.int .i64 (w64 (x8 + 1)))] .sl fun (x54 : Sl) =>
 mnil p_0 fun a55 =>
 sto P t_sl_api_Open (ad a55 2) .sl x54 <|
 R (()))
 (ld P t_int a1 I fun (x56 : Int) =>
 mif (x56 == 3)
 (mif (decide (x8 ≥ 0))
 (mnil p_0 fun a57 =>
 ld P t_sl_api_Open (ad a57 2) .sl fun (x58 : Sl) =>
 mcall P n_slices_Delete_sl_api_Open_api_Open [(Sl.v x58), (.int .i64 x8), (.int .i64 (w64 (x8 + 1)))] .sl fun (x59 : Sl) =>
 mnil p_0 fun a60 =>
 sto P t_sl_api_Open (ad a60 2) .sl x59 <|
 R (()))
 (R (())))
 (R (()))))
 (ld P t_int a1 I fun (x61 : Int) =>
 mif (x61 == 3)
 (mif (decide (x8 ≥ 0))
 (mnil p_0 fun a62 =>
 ld P t_sl_api_Open (ad a62 2) .sl fun (x63 : Sl) =>
 mcall P n_slices_Delete_sl_api_Open_api_Open [(Sl.v x63), (.int .i64 x8), (.int .i64 (w64 (x8 + 1)))] .sl fun (x64 : Sl) =>
 mnil p_0 fun a65 =>
 sto P t_sl_api_Open (ad a65 2) .sl x64 <|
 R (()))
 (R (())))
 (R (()))))
theorem part_Part_took_0_ok (R : Unit → World → Prop) (p_0 : Option Addr) (b_1 : T_api_Batch) (base_2 : Int) (w : World) (h : part_Part_took_0 R p_0 b_1 base_2 w) : WPC P 90 [] (Code.at part_Part_took_B []) (topQ P [] (.tup []) R) (mkE 90 part_Part_took_l1 (p_0, b_1, base_2, ())) w :=
  pc_end (T := part_Part_took_0 R p_0 b_1 base_2 w) hmix (by kernel_rfl) h
theorem part_Part_took_call (R : Unit → World → Prop) (p_0 : Option Addr) (b_1 : T_api_Batch) (base_2 : Int) (w : World) (h : part_Part_took_0 R p_0 b_1 base_2 w) : mcall P n_part_Part_took [(.pointer p_0), (KV k_api_Batch b_1), (.int .i64 base_2)] (.tup []) R w :=
  pc_top (T := (part_Part_took_0 R p_0 b_1 base_2) w) (l := part_Part_took_l1) (F := fun (x : Option Addr × T_api_Batch × Int × Unit) => part_Part_took_0 R x.1 x.2.1 x.2.2.1) (n := 90) (c := part_Part_took_B) Tryz.func50 rfl (by kernel_rfl) (by kernel_rfl) (by kernel_rfl) (fun x w h => part_Part_took_0_ok R x.1 x.2.1 x.2.2.1 w h) (by kernel_rfl) h
/- headgate change.head -/
noncomputable abbrev change_head_B : Code := (Tryz.f51.body).getD .skip
abbrev change_head_l1 : Slots := [(0, k_api_Batch)]
def change_head_0 (R : T_api_Record → World → Prop) (s_0 : T_api_Batch) : World → Prop :=
 bx P t_api_State k_api_Batch s_0 fun a1 =>
 alo P t_api_Record fun a2 =>
 ld P t_int a1 I fun (x3 : Int) =>
 ld P t_int (ad a1 1) I fun (x4 : Int) =>
 ld P t_int (ad a1 2) I fun (x5 : Int) =>
 ld P t_int (ad a1 3) I fun (x6 : Int) =>
 bsl P t_sl_int I [0, x3, x4, x5, x6] fun x7 =>
 mcall P n_varint_PutAll [(Sl.v x7)] .s fun (x8 : Bs) =>
 sto P t_api_Record a2 k_api_Record (0, 0, x8, ()) <|
 ld P t_api_Record a2 k_api_Record fun (x9 : T_api_Record) =>
 R x9
theorem change_head_0_ok (R : T_api_Record → World → Prop) (s_0 : T_api_Batch) (w : World) (h : change_head_0 R s_0 w) : WPC P 14 [] (Code.at change_head_B []) (topQ P [.cell 2 t_api_Record] k_api_Record R) (mkE 14 change_head_l1 (s_0, ())) w :=
  pc_end (T := change_head_0 R s_0 w) hmix (by kernel_rfl) h
theorem change_head_call (R : T_api_Record → World → Prop) (s_0 : T_api_Batch) (w : World) (h : change_head_0 R s_0 w) : mcall P n_change_head [(KV k_api_Batch s_0)] k_api_Record R w :=
  pc_top (T := (change_head_0 R s_0) w) (l := change_head_l1) (F := fun (x : T_api_Batch × Unit) => change_head_0 R x.1) (n := 14) (c := change_head_B) Tryz.func51 rfl (by kernel_rfl) (by kernel_rfl) (by kernel_rfl) (fun x w h => change_head_0_ok R x.1 w h) (by kernel_rfl) h
/- (*headgate part.Part).none -/
noncomputable abbrev part_Part_none_B : Code := (Tryz.f54.body).getD .skip
abbrev part_Part_none_l1 : Slots := [(0, .p)]
def part_Part_none_0 (R : Bool → World → Prop) (p_0 : Option Addr) : World → Prop :=
 meq P .eql t_ptr_part_Part (.pointer p_0) (.pointer none) fun (x1 : Bool) =>
 mif x1
 (R true)
 (mnil p_0 fun a2 =>
 ld P t_ptr_seglog_Log a2 .p fun (x3 : Option Addr) =>
 meq P .eql t_ptr_seglog_Log (.pointer x3) (.pointer none) fun (x4 : Bool) =>
 R x4)
theorem part_Part_none_0_ok (R : Bool → World → Prop) (p_0 : Option Addr) (w : World) (h : part_Part_none_0 R p_0 w) : WPC P 12 [] (Code.at part_Part_none_B []) (topQ P [.tmp 2] .b R) (mkE 12 part_Part_none_l1 (p_0, ())) w :=
  pc_end (T := part_Part_none_0 R p_0 w) hmix (by kernel_rfl) h
theorem part_Part_none_call (R : Bool → World → Prop) (p_0 : Option Addr) (w : World) (h : part_Part_none_0 R p_0 w) : mcall P n_part_Part_none [(.pointer p_0)] .b R w :=
  pc_top (T := (part_Part_none_0 R p_0) w) (l := part_Part_none_l1) (F := fun (x : Option Addr × Unit) => part_Part_none_0 R x.1) (n := 12) (c := part_Part_none_B) Tryz.func54 rfl (by kernel_rfl) (by kernel_rfl) (by kernel_rfl) (fun x w h => part_Part_none_0_ok R x.1 w h) (by kernel_rfl) h
/- (*headgate seglog.Log).Broken -/
noncomputable abbrev seglog_Log_Broken_B : Code := (Tryz.f55.body).getD .skip
abbrev seglog_Log_Broken_l1 : Slots := [(0, .p)]
def seglog_Log_Broken_0 (R : Int → World → Prop) (l_0 : Option Addr) : World → Prop :=
 meq P .eql t_ptr_seglog_Log (.pointer l_0) (.pointer none) fun (x1 : Bool) =>
 mif x1
 (R 1)
 (mnil l_0 fun a2 =>
 ld P t_api_Errno (ad a2 6) I fun (x3 : Int) =>
 R x3)
theorem seglog_Log_Broken_0_ok (R : Int → World → Prop) (l_0 : Option Addr) (w : World) (h : seglog_Log_Broken_0 R l_0 w) : WPC P 9 [] (Code.at seglog_Log_Broken_B []) (topQ P [.tmp 2] I R) (mkE 9 seglog_Log_Broken_l1 (l_0, ())) w :=
  pc_end (T := seglog_Log_Broken_0 R l_0 w) hmix (by kernel_rfl) h
theorem seglog_Log_Broken_call (R : Int → World → Prop) (l_0 : Option Addr) (w : World) (h : seglog_Log_Broken_0 R l_0 w) : mcall P n_seglog_Log_Broken [(.pointer l_0)] I R w :=
  pc_top (T := (seglog_Log_Broken_0 R l_0) w) (l := seglog_Log_Broken_l1) (F := fun (x : Option Addr × Unit) => seglog_Log_Broken_0 R x.1) (n := 9) (c := seglog_Log_Broken_B) Tryz.func55 rfl (by kernel_rfl) (by kernel_rfl) (by kernel_rfl) (fun x w h => seglog_Log_Broken_0_ok R x.1 w h) (by kernel_rfl) h
/- headgate dedup.Look -/
noncomputable abbrev dedup_Look_B : Code := (Tryz.f56.body).getD .skip
abbrev dedup_Look_l1 : Slots := [(0, .sl), (1, k_api_Batch)]
abbrev dedup_Look_l2 : Slots := [(3, .ad), (7, .ad)]
abbrev dedup_Look_l3 : Slots := [(3, .ad), (7, .ad)]
abbrev dedup_Look_l4 : Slots := []
def dedup_Look_3 (R : (Int × Bool × Int × Unit) → World → Prop) : World → Prop :=
 R (0, false, 7, ())
def dedup_Look_2 (R : (Int × Bool × Int × Unit) → World → Prop) (b_3 : Addr) (p_7 : Addr) : World → Prop :=
 ld P t_int (ad p_7 3) I fun (x18 : Int) =>
 mif (decide (x18 > 0))
 (ld P t_int (ad b_3 3) I fun (x19 : Int) =>
 ld P t_int (ad p_7 2) I fun (x20 : Int) =>
 mif (x19 == x20)
 (ld P t_sl_api_Record (ad b_3 4) .sl fun (x21 : Sl) =>
 ld P t_int (ad p_7 3) I fun (x22 : Int) =>
 mif ((x21.len : Int) == x22)
 (ld P t_int (ad p_7 4) I fun (x23 : Int) =>
 R (x23, true, 0, ()))
 (ld P t_int (ad p_7 3) I fun (x24 : Int) =>
 mif (decide (x24 > 0))
 (ld P t_int (ad b_3 3) I fun (x25 : Int) =>
 ld P t_int (ad p_7 3) I fun (x26 : Int) =>
 ld P t_int (ad p_7 2) I fun (x27 : Int) =>
 mif ((w64 (x25 - x26)) == x27)
 (mif ((w64 (x25 - x26)) == x27)
 (R (0, false, 0, ()))
 (dedup_Look_3 R))
 (ld P t_int (ad p_7 3) I fun (x28 : Int) =>
 mif (decide (x28 ≤ 0))
 (ld P t_int (ad b_3 3) I fun (x29 : Int) =>
 mif (x29 == 0)
 (R (0, false, 0, ()))
 (dedup_Look_3 R))
 (dedup_Look_3 R)))
 (ld P t_int (ad p_7 3) I fun (x30 : Int) =>
 mif (decide (x30 ≤ 0))
 (ld P t_int (ad b_3 3) I fun (x31 : Int) =>
 mif (x31 == 0)
 (R (0, false, 0, ()))
 (dedup_Look_3 R))
 (dedup_Look_3 R))))
 (ld P t_int (ad p_7 3) I fun (x32 : Int) =>
 mif (decide (x32 > 0))
 (ld P t_int (ad b_3 3) I fun (x33 : Int) =>
 ld P t_int (ad p_7 3) I fun (x34 : Int) =>
 ld P t_int (ad p_7 2) I fun (x35 : Int) =>
 mif ((w64 (x33 - x34)) == x35)
 (mif ((w64 (x33 - x34)) == x35)
 (R (0, false, 0, ()))
 (dedup_Look_3 R))
 (ld P t_int (ad p_7 3) I fun (x36 : Int) =>
 mif (decide (x36 ≤ 0))
 (ld P t_int (ad b_3 3) I fun (x37 : Int) =>
 mif (x37 == 0)
 (R (0, false, 0, ()))
 (dedup_Look_3 R))
 (dedup_Look_3 R)))
 (ld P t_int (ad p_7 3) I fun (x38 : Int) =>
 mif (decide (x38 ≤ 0))
 (ld P t_int (ad b_3 3) I fun (x39 : Int) =>
 mif (x39 == 0)
 (R (0, false, 0, ()))
 (dedup_Look_3 R))
 (dedup_Look_3 R))))
 (ld P t_int (ad p_7 3) I fun (x40 : Int) =>
 mif (decide (x40 > 0))
 (ld P t_int (ad b_3 3) I fun (x41 : Int) =>
 ld P t_int (ad p_7 3) I fun (x42 : Int) =>
 ld P t_int (ad p_7 2) I fun (x43 : Int) =>
 mif ((w64 (x41 - x42)) == x43)
 (mif ((w64 (x41 - x42)) == x43)
 (R (0, false, 0, ()))
 (dedup_Look_3 R))
 (ld P t_int (ad p_7 3) I fun (x44 : Int) =>
 mif (decide (x44 ≤ 0))
 (ld P t_int (ad b_3 3) I fun (x45 : Int) =>
 mif (x45 == 0)
 (R (0, false, 0, ()))
 (dedup_Look_3 R))
 (dedup_Look_3 R)))
 (ld P t_int (ad p_7 3) I fun (x46 : Int) =>
 mif (decide (x46 ≤ 0))
 (ld P t_int (ad b_3 3) I fun (x47 : Int) =>
 mif (x47 == 0)
 (R (0, false, 0, ()))
 (dedup_Look_3 R))
 (dedup_Look_3 R)))
def dedup_Look_1 (R : (Int × Bool × Int × Unit) → World → Prop) (b_3 : Addr) (p_7 : Addr) : World → Prop :=
 ld P t_int (ad b_3 2) I fun (x12 : Int) =>
 ld P t_int (ad p_7 1) I fun (x13 : Int) =>
 mif (decide (x12 < x13))
 (R (0, false, 8, ()))
 (ld P t_int (ad b_3 2) I fun (x14 : Int) =>
 ld P t_int (ad p_7 1) I fun (x15 : Int) =>
 mif (decide (x14 > x15))
 (ld P t_int (ad b_3 1) I fun (x16 : Int) =>
 ld P t_int (ad b_3 2) I fun (x17 : Int) =>
 sto P t_api_Prod p_7 k_api_Prod (x16, x17, 0, 0, 0, ()) <|
 dedup_Look_2 R b_3 p_7)
 (dedup_Look_2 R b_3 p_7))
def dedup_Look_0 (R : (Int × Bool × Int × Unit) → World → Prop) (l_0 : Sl) (b_1 : T_api_Batch) : World → Prop :=
 bx P t_api_Batch k_api_Batch b_1 fun a1 =>
 ld P t_api_Batch a1 k_api_Batch fun (x2 : T_api_Batch) =>
 mcall P n_batch_Check [(KV k_api_Batch x2)] I fun (x3 : Int) =>
 mif (x3 != 0)
 (R (0, false, 1, ()))
 (ld P t_int a1 I fun (x4 : Int) =>
 mif (decide (x4 > 2))
 (R (0, false, 1, ()))
 (ld P t_int (ad a1 1) I fun (x5 : Int) =>
 mif (x5 == 0)
 (R (0, false, 0, ()))
 (ld P t_int (ad a1 1) I fun (x6 : Int) =>
 alo P t_api_Prod fun a7 =>
 sto P t_api_Prod a7 k_api_Prod (x6, 0, 0, 0, 0, ()) <|
 ld P t_int (ad a1 1) I fun (x8 : Int) =>
 mcall P n_dedup_find [(Sl.v l_0), (.int .i64 x8)] (.tup [I, .b]) fun (x9 : Int × Bool × Unit) =>
 mif x9.2.1
 (ixa P t_sl_api_Prod (Sl.v l_0) x9.1 fun (x10 : Addr) =>
 ld P t_api_Prod x10 k_api_Prod fun (x11 : T_api_Prod) =>
 sto P t_api_Prod a7 k_api_Prod x11 <|
 dedup_Look_1 R a1 a7)
 (dedup_Look_1 R a1 a7))))
theorem dedup_Look_3_ok (R : (Int × Bool × Int × Unit) → World → Prop) (w : World) (h : dedup_Look_3 R w) : WPC P 94 [] (Code.at dedup_Look_B [.snd, .snd, .snd, .snd, .snd, .snd, .snd, .snd]) (topQ P [.tmp 4, .tmp 5, .tmp 6] (.tup [I, .b, I]) R) (mkE 94 dedup_Look_l4 (())) w :=
  pc_end (T := dedup_Look_3 R w) hmix (by kernel_rfl) h
theorem dedup_Look_2_ok (R : (Int × Bool × Int × Unit) → World → Prop) (b_3 : Addr) (p_7 : Addr) (w : World) (h : dedup_Look_2 R b_3 p_7 w) : WPC P 94 [] (Code.at dedup_Look_B [.snd, .snd, .snd, .snd, .snd, .snd, .snd]) (topQ P [.tmp 4, .tmp 5, .tmp 6] (.tup [I, .b, I]) R) (mkE 94 dedup_Look_l3 (b_3, p_7, ())) w :=
  pc_cut (T := dedup_Look_2 R b_3 p_7 w) (l := dedup_Look_l4) (F := fun (x : Unit) => dedup_Look_3 R) hmix 1 (mkE_len ..) (by kernel_rfl) (fun x w h => dedup_Look_3_ok R w h) (by kernel_rfl) h
theorem dedup_Look_1_ok (R : (Int × Bool × Int × Unit) → World → Prop) (b_3 : Addr) (p_7 : Addr) (w : World) (h : dedup_Look_1 R b_3 p_7 w) : WPC P 94 [] (Code.at dedup_Look_B [.snd, .snd, .snd, .snd, .snd]) (topQ P [.tmp 4, .tmp 5, .tmp 6] (.tup [I, .b, I]) R) (mkE 94 dedup_Look_l2 (b_3, p_7, ())) w :=
  pc_cut (T := dedup_Look_1 R b_3 p_7 w) (l := dedup_Look_l3) (F := fun (x : Addr × Addr × Unit) => dedup_Look_2 R x.1 x.2.1) hmix 2 (mkE_len ..) (by kernel_rfl) (fun x w h => dedup_Look_2_ok R x.1 x.2.1 w h) (by kernel_rfl) h
theorem dedup_Look_0_ok (R : (Int × Bool × Int × Unit) → World → Prop) (l_0 : Sl) (b_1 : T_api_Batch) (w : World) (h : dedup_Look_0 R l_0 b_1 w) : WPC P 94 [] (Code.at dedup_Look_B []) (topQ P [.tmp 4, .tmp 5, .tmp 6] (.tup [I, .b, I]) R) (mkE 94 dedup_Look_l1 (l_0, b_1, ())) w :=
  pc_cut (T := dedup_Look_0 R l_0 b_1 w) (l := dedup_Look_l2) (F := fun (x : Addr × Addr × Unit) => dedup_Look_1 R x.1 x.2.1) hmix 5 (mkE_len ..) (by kernel_rfl) (fun x w h => dedup_Look_1_ok R x.1 x.2.1 w h) (by kernel_rfl) h
theorem dedup_Look_call (R : (Int × Bool × Int × Unit) → World → Prop) (l_0 : Sl) (b_1 : T_api_Batch) (w : World) (h : dedup_Look_0 R l_0 b_1 w) : mcall P n_dedup_Look [(Sl.v l_0), (KV k_api_Batch b_1)] (.tup [I, .b, I]) R w :=
  pc_top (T := (dedup_Look_0 R l_0 b_1) w) (l := dedup_Look_l1) (F := fun (x : Sl × T_api_Batch × Unit) => dedup_Look_0 R x.1 x.2.1) (n := 94) (c := dedup_Look_B) Tryz.func56 rfl (by kernel_rfl) (by kernel_rfl) (by kernel_rfl) (fun x w h => dedup_Look_0_ok R x.1 x.2.1 w h) (by kernel_rfl) h
/- (*headgate part.Part).write -/
noncomputable abbrev part_Part_write_B : Code := (Tryz.f57.body).getD .skip
abbrev part_Part_write_l1 : Slots := [(0, .p), (1, k_api_Batch)]
def part_Part_write_0 (R : (Int × Int × Unit) → World → Prop) (p_0 : Option Addr) (b_1 : T_api_Batch) : World → Prop :=
 bx P t_api_Batch k_api_Batch b_1 fun a1 =>
 ld P t_api_Batch a1 k_api_Batch fun (x2 : T_api_Batch) =>
 mcall P n_batch_Encode [(KV k_api_Batch x2)] (.tup [.s, I]) fun (x3 : Bs × Int × Unit) =>
 mif (x3.2.1 != 0)
 (R (0, x3.2.1, ()))
 (mdraw <|
 mnil p_0 fun a4 =>
 ld P t_ptr_seglog_Log a4 .p fun (x5 : Option Addr) =>
 ld P t_api_Batch a1 k_api_Batch fun (x6 : T_api_Batch) =>
 mcall P n_batch_Len [(KV k_api_Batch x6)] I fun (x7 : Int) =>
 mst P (Instr.loadAt t_ptr_seglog_Log (.pointer (some a4))) (.pointer x5) <|
 bsl P t_sl_api_Item k_api_Item [(x7, x3.1, ())] fun x8 =>
 mst P (Instr.loadAt t_ptr_seglog_Log (.pointer (some a4))) (.pointer x5) <|
 mcall P n_seglog_Log_Append [(.pointer x5), (Sl.v x8)] (.tup [I, I]) fun (x9 : Int × Int × Unit) =>
 mif (x9.2.1 != 0)
 (R (0, x9.2.1, ()))
 (mnil p_0 fun a10 =>
 ld P t_ptr_seglog_Log a10 .p fun (x11 : Option Addr) =>
 mcall P n_seglog_Log_Sync [(.pointer x11)] I fun (x12 : Int) =>
 mif (x12 != 0)
 (R (0, x12, ()))
 (ld P t_api_Batch a1 k_api_Batch fun (x13 : T_api_Batch) =>
 mcall P n_part_Part_took [(.pointer p_0), (KV k_api_Batch x13), (.int .i64 x9.1)] (.tup []) fun (x14 : Unit) =>
 R (x9.1, 0, ()))))
theorem part_Part_write_0_ok (R : (Int × Int × Unit) → World → Prop) (p_0 : Option Addr) (b_1 : T_api_Batch) (w : World) (h : part_Part_write_0 R p_0 b_1 w) : WPC P 47 [] (Code.at part_Part_write_B []) (topQ P [.tmp 4, .tmp 5] (.tup [I, I]) R) (mkE 47 part_Part_write_l1 (p_0, b_1, ())) w :=
  pc_end (T := part_Part_write_0 R p_0 b_1 w) hmix (by kernel_rfl) h
theorem part_Part_write_call (R : (Int × Int × Unit) → World → Prop) (p_0 : Option Addr) (b_1 : T_api_Batch) (w : World) (h : part_Part_write_0 R p_0 b_1 w) : mcall P n_part_Part_write [(.pointer p_0), (KV k_api_Batch b_1)] (.tup [I, I]) R w :=
  pc_top (T := (part_Part_write_0 R p_0 b_1) w) (l := part_Part_write_l1) (F := fun (x : Option Addr × T_api_Batch × Unit) => part_Part_write_0 R x.1 x.2.1) (n := 47) (c := part_Part_write_B) Tryz.func57 rfl (by kernel_rfl) (by kernel_rfl) (by kernel_rfl) (fun x w h => part_Part_write_0_ok R x.1 x.2.1 w h) (by kernel_rfl) h
/- (*headgate part.Part).Stable -/
noncomputable abbrev part_Part_Stable_B : Code := (Tryz.f58.body).getD .skip
abbrev part_Part_Stable_l1 : Slots := [(0, .p)]
def part_Part_Stable_0 (R : Int → World → Prop) (p_0 : Option Addr) : World → Prop :=
 mcall P n_part_Part_none [(.pointer p_0)] .b fun (x1 : Bool) =>
 mif x1
 (R 0)
 (mnil p_0 fun a2 =>
 ld P t_sl_api_Open (ad a2 2) .sl fun (x3 : Sl) =>
 mif (decide ((x3.len : Int) > 0))
 (mnil p_0 fun a4 =>
 ld P t_sl_api_Open (ad a4 2) .sl fun (x5 : Sl) =>
 ixa P t_sl_api_Open (Sl.v x5) 0 fun (x6 : Addr) =>
 ld P t_int (ad x6 1) I fun (x7 : Int) =>
 R x7)
 (mnil p_0 fun a8 =>
 ld P t_ptr_seglog_Log a8 .p fun (x9 : Option Addr) =>
 mcall P n_seglog_Log_Next [(.pointer x9)] I fun (x10 : Int) =>
 R x10))
theorem part_Part_Stable_0_ok (R : Int → World → Prop) (p_0 : Option Addr) (w : World) (h : part_Part_Stable_0 R p_0 w) : WPC P 23 [] (Code.at part_Part_Stable_B []) (topQ P [.tmp 2] I R) (mkE 23 part_Part_Stable_l1 (p_0, ())) w :=
  pc_end (T := part_Part_Stable_0 R p_0 w) hmix (by kernel_rfl) h
theorem part_Part_Stable_call (R : Int → World → Prop) (p_0 : Option Addr) (w : World) (h : part_Part_Stable_0 R p_0 w) : mcall P n_part_Part_Stable [(.pointer p_0)] I R w :=
  pc_top (T := (part_Part_Stable_0 R p_0) w) (l := part_Part_Stable_l1) (F := fun (x : Option Addr × Unit) => part_Part_Stable_0 R x.1) (n := 23) (c := part_Part_Stable_B) Tryz.func58 rfl (by kernel_rfl) (by kernel_rfl) (by kernel_rfl) (fun x w h => part_Part_Stable_0_ok R x.1 w h) (by kernel_rfl) h
/- slices.ContainsFunc[[]int,int] -/
noncomputable abbrev slices_ContainsFunc_sl_int_int_B : Code := (Tryz.f60.body).getD .skip
abbrev slices_ContainsFunc_sl_int_int_l1 : Slots := [(0, .sl), (1, .v)]
def slices_ContainsFunc_sl_int_int_0 (R : Bool → World → Prop) (s_0 : Sl) (f_1 : Value) : World → Prop :=
 mcall P n_slices_IndexFunc_sl_int_int [(Sl.v s_0), f_1] I fun (x1 : Int) =>
 R (decide (x1 ≥ 0))
theorem slices_ContainsFunc_sl_int_int_0_ok (R : Bool → World → Prop) (s_0 : Sl) (f_1 : Value) (w : World) (h : slices_ContainsFunc_sl_int_int_0 R s_0 f_1 w) : WPC P 9 [] (Code.at slices_ContainsFunc_sl_int_int_B []) (topQ P [.tmp 4] .b R) (mkE 9 slices_ContainsFunc_sl_int_int_l1 (s_0, f_1, ())) w :=
  pc_end (T := slices_ContainsFunc_sl_int_int_0 R s_0 f_1 w) hmix (by kernel_rfl) h
theorem slices_ContainsFunc_sl_int_int_call (R : Bool → World → Prop) (s_0 : Sl) (f_1 : Value) (w : World) (h : slices_ContainsFunc_sl_int_int_0 R s_0 f_1 w) : mcall P n_slices_ContainsFunc_sl_int_int [(Sl.v s_0), f_1] .b R w :=
  pc_top (T := (slices_ContainsFunc_sl_int_int_0 R s_0 f_1) w) (l := slices_ContainsFunc_sl_int_int_l1) (F := fun (x : Sl × Value × Unit) => slices_ContainsFunc_sl_int_int_0 R x.1 x.2.1) (n := 9) (c := slices_ContainsFunc_sl_int_int_B) Tryz.func60 rfl (by kernel_rfl) (by kernel_rfl) (by kernel_rfl) (fun x w h => slices_ContainsFunc_sl_int_int_0_ok R x.1 x.2.1 w h) (by kernel_rfl) h
/- headgate batch.within$1 -/
noncomputable abbrev batch_within_c1_B : Code := (Tryz.f61.body).getD .skip
abbrev batch_within_c1_l1 : Slots := [(0, I)]
def batch_within_c1_0 (R : Bool → World → Prop) (n_0 : Int) : World → Prop :=
 mif (decide (n_0 < 0))
 (R true)
 (R (decide (n_0 > 1099511627776)))
theorem batch_within_c1_0_ok (R : Bool → World → Prop) (n_0 : Int) (w : World) (h : batch_within_c1_0 R n_0 w) : WPC P 9 [] (Code.at batch_within_c1_B []) (topQ P [.tmp 2] .b R) (mkE 9 batch_within_c1_l1 (n_0, ())) w :=
  pc_end (T := batch_within_c1_0 R n_0 w) hmix (by kernel_rfl) h
theorem batch_within_c1_call (R : Bool → World → Prop) (n_0 : Int) (w : World) (h : batch_within_c1_0 R n_0 w) : mcall P n_batch_within_c1 [(.int .i64 n_0)] .b R w :=
  pc_top (T := (batch_within_c1_0 R n_0) w) (l := batch_within_c1_l1) (F := fun (x : Int × Unit) => batch_within_c1_0 R x.1) (n := 9) (c := batch_within_c1_B) Tryz.func61 rfl (by kernel_rfl) (by kernel_rfl) (by kernel_rfl) (fun x w h => batch_within_c1_0_ok R x.1 w h) (by kernel_rfl) h
/- headgate crc.More -/
noncomputable abbrev crc_More_B : Code := (Tryz.f63.body).getD .skip
abbrev crc_More_l1 : Slots := [(0, (.i .u32)), (1, .s)]
abbrev crc_More_l2 : Slots := [(1, .s), (5, (.i .u32))]
abbrev crc_More_l3 : Slots := [(5, (.i .u32))]
def crc_More_2 (R : Int → World → Prop) (r_5 : Int) : World → Prop :=
 R (inot .u32 r_5)
abbrev crc_More_l4 : Slots := [(1, .s), (5, (.i .u32))]
abbrev crc_More_l5 : Slots := [(5, (.i .u32)), (11, I)]
abbrev crc_More_l6 : Slots := [(1, .s), (10, I)]
abbrev crc_More_l7 : Slots := [(1, .s), (5, (.i .u32)), (10, I), (11, I)]
abbrev crc_More_l8 : Slots := [(1, .s), (5, (.i .u32)), (10, I), (11, I)]
def crc_More_7 (c1 : (Int × Int × Unit) → (Bs × Int × Unit) → World → Prop) (R : Int → World → Prop) (s_1 : Bs) (r_5 : Int) (v10 : Int) (v11 : Int) : World → Prop :=
 c1 (r_5, w64 (v11 + 1), ()) (s_1, v10, ())
abbrev crc_More_l9 : Slots := [(1, .s), (5, (.i .u32)), (10, I), (11, I)]
abbrev crc_More_l10 : Slots := [(5, (.i .u32)), (20, I)]
abbrev crc_More_l11 : Slots := [(1, .s), (10, I), (11, I)]
def crc_More_10 (c2 : (Int × Int × Unit) → (Bs × Int × Int × Unit) → World → Prop) (c1 : (Int × Int × Unit) → (Bs × Int × Unit) → World → Prop) (R : Int → World → Prop) (r_5 : Int) (v20 : Int) (s_1 : Bs) (v10 : Int) (v11 : Int) : World → Prop :=
 mif (decide (v20 < 8))
 (mcall P n_crc_register_step [(.int .u32 r_5)] (.i .u32) fun (x2 : Int) =>
 c2 (x2, w64 (v20 + 1), ()) (s_1, v10, v11, ()))
 (crc_More_7 c1 R s_1 r_5 v10 v11)
def crc_More_9 (c1 : (Int × Int × Unit) → (Bs × Int × Unit) → World → Prop) (R : Int → World → Prop) (r_5 : Int) (v20 : Int) (s_1 : Bs) (v10 : Int) (v11 : Int) : World → Prop :=
 W.Loop (s_1, v10, v11, ()) (fun (c2 : (Int × Int × Unit) → (Bs × Int × Int × Unit) → World → Prop) (s : Int × Int × Unit) => crc_More_10 c2 c1 R s.1 s.2.1 s_1 v10 v11) (r_5, v20, ())
def crc_More_8 (c1 : (Int × Int × Unit) → (Bs × Int × Unit) → World → Prop) (R : Int → World → Prop) (s_1 : Bs) (r_5 : Int) (v10 : Int) (v11 : Int) : World → Prop :=
 ixs P t_string s_1 v11 fun (x1 : Int) =>
 crc_More_9 c1 R (ixor .u32 r_5 (wr32 x1)) 0 s_1 v10 v11
def crc_More_6 (c1 : (Int × Int × Unit) → (Bs × Int × Unit) → World → Prop) (R : Int → World → Prop) (s_1 : Bs) (r_5 : Int) (v10 : Int) (v11 : Int) : World → Prop :=
 crc_More_8 c1 R s_1 r_5 v10 v11
def crc_More_5 (c1 : (Int × Int × Unit) → (Bs × Int × Unit) → World → Prop) (R : Int → World → Prop) (r_5 : Int) (v11 : Int) (s_1 : Bs) (v10 : Int) : World → Prop :=
 mif (decide (v11 < v10))
 (crc_More_6 c1 R s_1 r_5 v10 v11)
 (crc_More_2 R r_5)
def crc_More_4 (R : Int → World → Prop) (r_5 : Int) (v11 : Int) (s_1 : Bs) (v10 : Int) : World → Prop :=
 W.Loop (s_1, v10, ()) (fun (c1 : (Int × Int × Unit) → (Bs × Int × Unit) → World → Prop) (s : Int × Int × Unit) => crc_More_5 c1 R s.1 s.2.1 s_1 v10) (r_5, v11, ())
def crc_More_3 (R : Int → World → Prop) (s_1 : Bs) (r_5 : Int) : World → Prop :=
 crc_More_4 R r_5 0 s_1 (s_1.length : Int)
def crc_More_1 (R : Int → World → Prop) (s_1 : Bs) (r_5 : Int) : World → Prop :=
 crc_More_3 R s_1 r_5
def crc_More_0 (R : Int → World → Prop) (c_0 : Int) (s_1 : Bs) : World → Prop :=
 crc_More_1 R s_1 (inot .u32 c_0)
theorem crc_More_2_ok (R : Int → World → Prop) (r_5 : Int) (w : World) (h : crc_More_2 R r_5 w) : WPC P 28 [] (Code.at crc_More_B [.snd, .snd, .snd]) (topQ P [.tmp 4] (.i .u32) R) (mkE 28 crc_More_l3 (r_5, ())) w :=
  pc_end (T := crc_More_2 R r_5 w) hmix (by kernel_rfl) h
theorem crc_More_7_ok (c1 : (Int × Int × Unit) → (Bs × Int × Unit) → World → Prop) (R : Int → World → Prop) (s_1 : Bs) (r_5 : Int) (v10 : Int) (v11 : Int) (w : World) (h : crc_More_7 c1 R s_1 r_5 v10 v11 w) : WPC P 28 [] (Code.at crc_More_B [.snd, .snd, .fst, .snd, .blk, .blk, .snd, .snd, .snd]) (thenQ (fun env => getE env crc_More_l5 fun (s : Int × Int × Unit) => getE env crc_More_l6 (c1 s)) (blockQ 0 ((thenQ (fun env => getE env crc_More_l3 fun (x : Int × Unit) => crc_More_2 R x.1) (topQ P [.tmp 4] (.i .u32) R)) .normal) (thenQ (fun env => getE env crc_More_l3 fun (x : Int × Unit) => crc_More_2 R x.1) (topQ P [.tmp 4] (.i .u32) R)))) (mkE 28 crc_More_l8 (s_1, r_5, v10, v11, ())) w :=
  pc_end (T := crc_More_7 c1 R s_1 r_5 v10 v11 w) hmix (by kernel_rfl) h
theorem crc_More_10_ok (c2 : (Int × Int × Unit) → (Bs × Int × Int × Unit) → World → Prop) (c1 : (Int × Int × Unit) → (Bs × Int × Unit) → World → Prop) (R : Int → World → Prop) (r_5 : Int) (v20 : Int) (s_1 : Bs) (v10 : Int) (v11 : Int) (w : World) (h : crc_More_10 c2 c1 R r_5 v20 s_1 v10 v11 w) : WPC P 28 [] (Code.at crc_More_B [.snd, .snd, .fst, .snd, .blk, .blk, .snd, .snd, .fst, .blk, .snd, .snd, .snd, .blk, .blk]) (thenQ (fun env => getE env crc_More_l10 fun (s : Int × Int × Unit) => getE env crc_More_l11 (c2 s)) (blockQ 2 ((blockQ 1 ((thenQ (fun env => getE env crc_More_l8 fun (x : Bs × Int × Int × Int × Unit) => crc_More_7 c1 R x.1 x.2.1 x.2.2.1 x.2.2.2.1) (thenQ (fun env => getE env crc_More_l5 fun (s : Int × Int × Unit) => getE env crc_More_l6 (c1 s)) (blockQ 0 ((thenQ (fun env => getE env crc_More_l3 fun (x : Int × Unit) => crc_More_2 R x.1) (topQ P [.tmp 4] (.i .u32) R)) .normal) (thenQ (fun env => getE env crc_More_l3 fun (x : Int × Unit) => crc_More_2 R x.1) (topQ P [.tmp 4] (.i .u32) R))))) .normal) (thenQ (fun env => getE env crc_More_l8 fun (x : Bs × Int × Int × Int × Unit) => crc_More_7 c1 R x.1 x.2.1 x.2.2.1 x.2.2.2.1) (thenQ (fun env => getE env crc_More_l5 fun (s : Int × Int × Unit) => getE env crc_More_l6 (c1 s)) (blockQ 0 ((thenQ (fun env => getE env crc_More_l3 fun (x : Int × Unit) => crc_More_2 R x.1) (topQ P [.tmp 4] (.i .u32) R)) .normal) (thenQ (fun env => getE env crc_More_l3 fun (x : Int × Unit) => crc_More_2 R x.1) (topQ P [.tmp 4] (.i .u32) R)))))) .normal) (blockQ 1 ((thenQ (fun env => getE env crc_More_l8 fun (x : Bs × Int × Int × Int × Unit) => crc_More_7 c1 R x.1 x.2.1 x.2.2.1 x.2.2.2.1) (thenQ (fun env => getE env crc_More_l5 fun (s : Int × Int × Unit) => getE env crc_More_l6 (c1 s)) (blockQ 0 ((thenQ (fun env => getE env crc_More_l3 fun (x : Int × Unit) => crc_More_2 R x.1) (topQ P [.tmp 4] (.i .u32) R)) .normal) (thenQ (fun env => getE env crc_More_l3 fun (x : Int × Unit) => crc_More_2 R x.1) (topQ P [.tmp 4] (.i .u32) R))))) .normal) (thenQ (fun env => getE env crc_More_l8 fun (x : Bs × Int × Int × Int × Unit) => crc_More_7 c1 R x.1 x.2.1 x.2.2.1 x.2.2.2.1) (thenQ (fun env => getE env crc_More_l5 fun (s : Int × Int × Unit) => getE env crc_More_l6 (c1 s)) (blockQ 0 ((thenQ (fun env => getE env crc_More_l3 fun (x : Int × Unit) => crc_More_2 R x.1) (topQ P [.tmp 4] (.i .u32) R)) .normal) (thenQ (fun env => getE env crc_More_l3 fun (x : Int × Unit) => crc_More_2 R x.1) (topQ P [.tmp 4] (.i .u32) R)))))))) (mkE2 28 crc_More_l10 crc_More_l11 (r_5, v20, ()) (s_1, v10, v11, ())) w :=
  pc_end (T := crc_More_10 c2 c1 R r_5 v20 s_1 v10 v11 w) hmix (by kernel_rfl) h
theorem crc_More_9_ok (c1 : (Int × Int × Unit) → (Bs × Int × Unit) → World → Prop) (R : Int → World → Prop) (r_5 : Int) (v20 : Int) (s_1 : Bs) (v10 : Int) (v11 : Int) (w : World) (h : crc_More_9 c1 R r_5 v20 s_1 v10 v11 w) : WPC P 28 [] (Code.at crc_More_B [.snd, .snd, .fst, .snd, .blk, .blk, .snd, .snd, .fst, .blk, .snd, .snd, .snd]) (blockQ 1 ((thenQ (fun env => getE env crc_More_l8 fun (x : Bs × Int × Int × Int × Unit) => crc_More_7 c1 R x.1 x.2.1 x.2.2.1 x.2.2.2.1) (thenQ (fun env => getE env crc_More_l5 fun (s : Int × Int × Unit) => getE env crc_More_l6 (c1 s)) (blockQ 0 ((thenQ (fun env => getE env crc_More_l3 fun (x : Int × Unit) => crc_More_2 R x.1) (topQ P [.tmp 4] (.i .u32) R)) .normal) (thenQ (fun env => getE env crc_More_l3 fun (x : Int × Unit) => crc_More_2 R x.1) (topQ P [.tmp 4] (.i .u32) R))))) .normal) (thenQ (fun env => getE env crc_More_l8 fun (x : Bs × Int × Int × Int × Unit) => crc_More_7 c1 R x.1 x.2.1 x.2.2.1 x.2.2.2.1) (thenQ (fun env => getE env crc_More_l5 fun (s : Int × Int × Unit) => getE env crc_More_l6 (c1 s)) (blockQ 0 ((thenQ (fun env => getE env crc_More_l3 fun (x : Int × Unit) => crc_More_2 R x.1) (topQ P [.tmp 4] (.i .u32) R)) .normal) (thenQ (fun env => getE env crc_More_l3 fun (x : Int × Unit) => crc_More_2 R x.1) (topQ P [.tmp 4] (.i .u32) R)))))) (mkE2 28 crc_More_l10 crc_More_l11 (r_5, v20, ()) (s_1, v10, v11, ())) w :=
  pc_loopE (l := crc_More_l10) (l' := crc_More_l11) (body := fun (c2 : (Int × Int × Unit) → (Bs × Int × Int × Unit) → World → Prop) (s : Int × Int × Unit) => crc_More_10 c2 c1 R s.1 s.2.1 s_1 v10 v11) (id := 2) (b := (Code.at crc_More_B [.snd, .snd, .fst, .snd, .blk, .blk, .snd, .snd, .fst, .blk, .snd, .snd, .snd, .blk, .blk])) (by kernel_rfl) (fun c2 s w h => crc_More_10_ok c2 c1 R s.1 s.2.1 s_1 v10 v11 w h) h
theorem crc_More_8_ok (c1 : (Int × Int × Unit) → (Bs × Int × Unit) → World → Prop) (R : Int → World → Prop) (s_1 : Bs) (r_5 : Int) (v10 : Int) (v11 : Int) (w : World) (h : crc_More_8 c1 R s_1 r_5 v10 v11 w) : WPC P 28 [] (Code.at crc_More_B [.snd, .snd, .fst, .snd, .blk, .blk, .snd, .snd, .fst, .blk]) (blockQ 1 ((thenQ (fun env => getE env crc_More_l8 fun (x : Bs × Int × Int × Int × Unit) => crc_More_7 c1 R x.1 x.2.1 x.2.2.1 x.2.2.2.1) (thenQ (fun env => getE env crc_More_l5 fun (s : Int × Int × Unit) => getE env crc_More_l6 (c1 s)) (blockQ 0 ((thenQ (fun env => getE env crc_More_l3 fun (x : Int × Unit) => crc_More_2 R x.1) (topQ P [.tmp 4] (.i .u32) R)) .normal) (thenQ (fun env => getE env crc_More_l3 fun (x : Int × Unit) => crc_More_2 R x.1) (topQ P [.tmp 4] (.i .u32) R))))) .normal) (thenQ (fun env => getE env crc_More_l8 fun (x : Bs × Int × Int × Int × Unit) => crc_More_7 c1 R x.1 x.2.1 x.2.2.1 x.2.2.2.1) (thenQ (fun env => getE env crc_More_l5 fun (s : Int × Int × Unit) => getE env crc_More_l6 (c1 s)) (blockQ 0 ((thenQ (fun env => getE env crc_More_l3 fun (x : Int × Unit) => crc_More_2 R x.1) (topQ P [.tmp 4] (.i .u32) R)) .normal) (thenQ (fun env => getE env crc_More_l3 fun (x : Int × Unit) => crc_More_2 R x.1) (topQ P [.tmp 4] (.i .u32) R)))))) (mkE 28 crc_More_l9 (s_1, r_5, v10, v11, ())) w :=
  pc_cut2 (T := crc_More_8 c1 R s_1 r_5 v10 v11 w) (l := crc_More_l10) (l' := crc_More_l11) (F := fun (x : Int × Int × Unit) (y : Bs × Int × Int × Unit) => crc_More_9 c1 R x.1 x.2.1 y.1 y.2.1 y.2.2.1) hmix 3 (mkE_len ..) (by kernel_rfl) (fun x y w h => crc_More_9_ok c1 R x.1 x.2.1 y.1 y.2.1 y.2.2.1 w h) (by kernel_rfl) h
theorem crc_More_6_ok (c1 : (Int × Int × Unit) → (Bs × Int × Unit) → World → Prop) (R : Int → World → Prop) (s_1 : Bs) (r_5 : Int) (v10 : Int) (v11 : Int) (w : World) (h : crc_More_6 c1 R s_1 r_5 v10 v11 w) : WPC P 28 [] (Code.at crc_More_B [.snd, .snd, .fst, .snd, .blk, .blk, .snd, .snd]) (thenQ (fun env => getE env crc_More_l5 fun (s : Int × Int × Unit) => getE env crc_More_l6 (c1 s)) (blockQ 0 ((thenQ (fun env => getE env crc_More_l3 fun (x : Int × Unit) => crc_More_2 R x.1) (topQ P [.tmp 4] (.i .u32) R)) .normal) (thenQ (fun env => getE env crc_More_l3 fun (x : Int × Unit) => crc_More_2 R x.1) (topQ P [.tmp 4] (.i .u32) R)))) (mkE 28 crc_More_l7 (s_1, r_5, v10, v11, ())) w :=
  pc_seq (l := crc_More_l8) (F := fun (x : Bs × Int × Int × Int × Unit) => crc_More_7 c1 R x.1 x.2.1 x.2.2.1 x.2.2.2.1) (a := (Code.at crc_More_B [.snd, .snd, .fst, .snd, .blk, .blk, .snd, .snd, .fst])) (b := (Code.at crc_More_B [.snd, .snd, .fst, .snd, .blk, .blk, .snd, .snd, .snd])) (by kernel_rfl) (pc_block (c := (Code.at crc_More_B [.snd, .snd, .fst, .snd, .blk, .blk, .snd, .snd, .fst, .blk])) (id := 1) (by kernel_rfl) (pc_cut (T := (crc_More_8 c1 R s_1 r_5 v10 v11) w) (l := crc_More_l9) (F := fun (x : Bs × Int × Int × Int × Unit) => crc_More_8 c1 R x.1 x.2.1 x.2.2.1 x.2.2.2.1) (c := (Code.at crc_More_B [.snd, .snd, .fst, .snd, .blk, .blk, .snd, .snd, .fst, .blk])) hmix 0 (mkE_len ..) (by kernel_rfl) (fun x w h => crc_More_8_ok c1 R x.1 x.2.1 x.2.2.1 x.2.2.2.1 w h) (by kernel_rfl) h)) (fun x w h => crc_More_7_ok c1 R x.1 x.2.1 x.2.2.1 x.2.2.2.1 w h)
theorem crc_More_5_ok (c1 : (Int × Int × Unit) → (Bs × Int × Unit) → World → Prop) (R : Int → World → Prop) (r_5 : Int) (v11 : Int) (s_1 : Bs) (v10 : Int) (w : World) (h : crc_More_5 c1 R r_5 v11 s_1 v10 w) : WPC P 28 [] (Code.at crc_More_B [.snd, .snd, .fst, .snd, .blk, .blk]) (thenQ (fun env => getE env crc_More_l5 fun (s : Int × Int × Unit) => getE env crc_More_l6 (c1 s)) (blockQ 0 ((thenQ (fun env => getE env crc_More_l3 fun (x : Int × Unit) => crc_More_2 R x.1) (topQ P [.tmp 4] (.i .u32) R)) .normal) (thenQ (fun env => getE env crc_More_l3 fun (x : Int × Unit) => crc_More_2 R x.1) (topQ P [.tmp 4] (.i .u32) R)))) (mkE2 28 crc_More_l5 crc_More_l6 (r_5, v11, ()) (s_1, v10, ())) w :=
  pc_cut (T := crc_More_5 c1 R r_5 v11 s_1 v10 w) (l := crc_More_l7) (F := fun (x : Bs × Int × Int × Int × Unit) => crc_More_6 c1 R x.1 x.2.1 x.2.2.1 x.2.2.2.1) hmix 2 (mkE2_len ..) (by kernel_rfl) (fun x w h => crc_More_6_ok c1 R x.1 x.2.1 x.2.2.1 x.2.2.2.1 w h) (by kernel_rfl) h
theorem crc_More_4_ok (R : Int → World → Prop) (r_5 : Int) (v11 : Int) (s_1 : Bs) (v10 : Int) (w : World) (h : crc_More_4 R r_5 v11 s_1 v10 w) : WPC P 28 [] (Code.at crc_More_B [.snd, .snd, .fst, .snd]) (thenQ (fun env => getE env crc_More_l3 fun (x : Int × Unit) => crc_More_2 R x.1) (topQ P [.tmp 4] (.i .u32) R)) (mkE2 28 crc_More_l5 crc_More_l6 (r_5, v11, ()) (s_1, v10, ())) w :=
  pc_loopE (l := crc_More_l5) (l' := crc_More_l6) (body := fun (c1 : (Int × Int × Unit) → (Bs × Int × Unit) → World → Prop) (s : Int × Int × Unit) => crc_More_5 c1 R s.1 s.2.1 s_1 v10) (id := 0) (b := (Code.at crc_More_B [.snd, .snd, .fst, .snd, .blk, .blk])) (by kernel_rfl) (fun c1 s w h => crc_More_5_ok c1 R s.1 s.2.1 s_1 v10 w h) h
theorem crc_More_3_ok (R : Int → World → Prop) (s_1 : Bs) (r_5 : Int) (w : World) (h : crc_More_3 R s_1 r_5 w) : WPC P 28 [] (Code.at crc_More_B [.snd, .snd, .fst]) (thenQ (fun env => getE env crc_More_l3 fun (x : Int × Unit) => crc_More_2 R x.1) (topQ P [.tmp 4] (.i .u32) R)) (mkE 28 crc_More_l4 (s_1, r_5, ())) w :=
  pc_cut2 (T := crc_More_3 R s_1 r_5 w) (l := crc_More_l5) (l' := crc_More_l6) (F := fun (x : Int × Int × Unit) (y : Bs × Int × Unit) => crc_More_4 R x.1 x.2.1 y.1 y.2.1) hmix 1 (mkE_len ..) (by kernel_rfl) (fun x y w h => crc_More_4_ok R x.1 x.2.1 y.1 y.2.1 w h) (by kernel_rfl) h
theorem crc_More_1_ok (R : Int → World → Prop) (s_1 : Bs) (r_5 : Int) (w : World) (h : crc_More_1 R s_1 r_5 w) : WPC P 28 [] (Code.at crc_More_B [.snd, .snd]) (topQ P [.tmp 4] (.i .u32) R) (mkE 28 crc_More_l2 (s_1, r_5, ())) w :=
  pc_seq (l := crc_More_l3) (F := fun (x : Int × Unit) => crc_More_2 R x.1) (a := (Code.at crc_More_B [.snd, .snd, .fst])) (b := (Code.at crc_More_B [.snd, .snd, .snd])) (by kernel_rfl) (pc_cut (T := (crc_More_3 R s_1 r_5) w) (l := crc_More_l4) (F := fun (x : Bs × Int × Unit) => crc_More_3 R x.1 x.2.1) (c := (Code.at crc_More_B [.snd, .snd, .fst])) hmix 0 (mkE_len ..) (by kernel_rfl) (fun x w h => crc_More_3_ok R x.1 x.2.1 w h) (by kernel_rfl) h) (fun x w h => crc_More_2_ok R x.1 w h)
theorem crc_More_0_ok (R : Int → World → Prop) (c_0 : Int) (s_1 : Bs) (w : World) (h : crc_More_0 R c_0 s_1 w) : WPC P 28 [] (Code.at crc_More_B []) (topQ P [.tmp 4] (.i .u32) R) (mkE 28 crc_More_l1 (c_0, s_1, ())) w :=
  pc_cut (T := crc_More_0 R c_0 s_1 w) (l := crc_More_l2) (F := fun (x : Bs × Int × Unit) => crc_More_1 R x.1 x.2.1) hmix 2 (mkE_len ..) (by kernel_rfl) (fun x w h => crc_More_1_ok R x.1 x.2.1 w h) (by kernel_rfl) h
theorem crc_More_call (R : Int → World → Prop) (c_0 : Int) (s_1 : Bs) (w : World) (h : crc_More_0 R c_0 s_1 w) : mcall P n_crc_More [(.int .u32 c_0), (.string ⟨s_1.toArray⟩)] (.i .u32) R w :=
  pc_top (T := (crc_More_0 R c_0 s_1) w) (l := crc_More_l1) (F := fun (x : Int × Bs × Unit) => crc_More_0 R x.1 x.2.1) (n := 28) (c := crc_More_B) Tryz.func63 rfl (by kernel_rfl) (by kernel_rfl) (by kernel_rfl) (fun x w h => crc_More_0_ok R x.1 x.2.1 w h) (by kernel_rfl) h
/- headgate crc.Unseal -/
noncomputable abbrev crc_Unseal_B : Code := (Tryz.f64.body).getD .skip
abbrev crc_Unseal_l1 : Slots := [(0, .s)]
abbrev crc_Unseal_l2 : Slots := []
def crc_Unseal_1 (R : (Bs × Int × Unit) → World → Prop) : World → Prop :=
 R ([], 2, ())
def crc_Unseal_0 (R : (Bs × Int × Unit) → World → Prop) (s_0 : Bs) : World → Prop :=
 mif (decide ((w64 ((s_0.length : Int) - 4)) ≥ 0))
 (sls P t_string s_0 none (some (w64 ((s_0.length : Int) - 4))) fun (x1 : Bs) =>
 mcall P n_crc_Seal [(.string ⟨x1.toArray⟩)] .s fun (x2 : Bs) =>
 mif (x2 == s_0)
 (sls P t_string s_0 none (some (w64 ((s_0.length : Int) - 4))) fun (x3 : Bs) =>
 R (x3, 0, ()))
 (crc_Unseal_1 R))
 (crc_Unseal_1 R)
theorem crc_Unseal_1_ok (R : (Bs × Int × Unit) → World → Prop) (w : World) (h : crc_Unseal_1 R w) : WPC P 21 [] (Code.at crc_Unseal_B [.snd, .snd]) (topQ P [.tmp 2, .tmp 3] (.tup [.s, I]) R) (mkE 21 crc_Unseal_l2 (())) w :=
  pc_end (T := crc_Unseal_1 R w) hmix (by kernel_rfl) h
theorem crc_Unseal_0_ok (R : (Bs × Int × Unit) → World → Prop) (s_0 : Bs) (w : World) (h : crc_Unseal_0 R s_0 w) : WPC P 21 [] (Code.at crc_Unseal_B []) (topQ P [.tmp 2, .tmp 3] (.tup [.s, I]) R) (mkE 21 crc_Unseal_l1 (s_0, ())) w :=
  pc_cut (T := crc_Unseal_0 R s_0 w) (l := crc_Unseal_l2) (F := fun (x : Unit) => crc_Unseal_1 R) hmix 2 (mkE_len ..) (by kernel_rfl) (fun x w h => crc_Unseal_1_ok R w h) (by kernel_rfl) h
theorem crc_Unseal_call (R : (Bs × Int × Unit) → World → Prop) (s_0 : Bs) (w : World) (h : crc_Unseal_0 R s_0 w) : mcall P n_crc_Unseal [(.string ⟨s_0.toArray⟩)] (.tup [.s, I]) R w :=
  pc_top (T := (crc_Unseal_0 R s_0) w) (l := crc_Unseal_l1) (F := fun (x : Bs × Unit) => crc_Unseal_0 R x.1) (n := 21) (c := crc_Unseal_B) Tryz.func64 rfl (by kernel_rfl) (by kernel_rfl) (by kernel_rfl) (fun x w h => crc_Unseal_0_ok R x.1 w h) (by kernel_rfl) h
/- headgate seglog.named -/
noncomputable abbrev seglog_named_B : Code := (Tryz.f65.body).getD .skip
abbrev seglog_named_l1 : Slots := [(0, .s)]
def seglog_named_0 (R : Bool → World → Prop) (name_0 : Bs) : World → Prop :=
 mif (!(name_0 == []))
 (mif (decide ((name_0.length : Int) ≤ 8))
 (mcall P n_strings_Trim [(.string ⟨name_0.toArray⟩), (.string ⟨[97, 98, 99, 100, 101, 102, 103, 104, 105, 106, 107, 108, 109, 110, 111, 112, 113, 114, 115, 116, 117, 118, 119, 120, 121, 122, 48, 49, 50, 51, 52, 53, 54, 55, 56, 57].toArray⟩)] .s fun (x1 : Bs) =>
 R (x1 == []))
 (R false))
 (R false)
theorem seglog_named_0_ok (R : Bool → World → Prop) (name_0 : Bs) (w : World) (h : seglog_named_0 R name_0 w) : WPC P 15 [] (Code.at seglog_named_B []) (topQ P [.tmp 2] .b R) (mkE 15 seglog_named_l1 (name_0, ())) w :=
  pc_end (T := seglog_named_0 R name_0 w) hmix (by kernel_rfl) h
theorem seglog_named_call (R : Bool → World → Prop) (name_0 : Bs) (w : World) (h : seglog_named_0 R name_0 w) : mcall P n_seglog_named [(.string ⟨name_0.toArray⟩)] .b R w :=
  pc_top (T := (seglog_named_0 R name_0) w) (l := seglog_named_l1) (F := fun (x : Bs × Unit) => seglog_named_0 R x.1) (n := 15) (c := seglog_named_B) Tryz.func65 rfl (by kernel_rfl) (by kernel_rfl) (by kernel_rfl) (fun x w h => seglog_named_0_ok R x.1 w h) (by kernel_rfl) h
/- (*headgate disk.Disk).Off -/
noncomputable abbrev disk_Disk_Off_B : Code := (Tryz.f66.body).getD .skip
abbrev disk_Disk_Off_l1 : Slots := [(0, .p)]
def disk_Disk_Off_0 (R : Bool → World → Prop) (d_0 : Option Addr) : World → Prop :=
 meq P .eql t_ptr_disk_Disk (.pointer d_0) (.pointer none) fun (x1 : Bool) =>
 mif x1
 (R true)
 (mnil d_0 fun a2 =>
 ld P t_bool (ad a2 3) .b fun (x3 : Bool) =>
 R x3)
theorem disk_Disk_Off_0_ok (R : Bool → World → Prop) (d_0 : Option Addr) (w : World) (h : disk_Disk_Off_0 R d_0 w) : WPC P 11 [] (Code.at disk_Disk_Off_B []) (topQ P [.tmp 2] .b R) (mkE 11 disk_Disk_Off_l1 (d_0, ())) w :=
  pc_end (T := disk_Disk_Off_0 R d_0 w) hmix (by kernel_rfl) h
theorem disk_Disk_Off_call (R : Bool → World → Prop) (d_0 : Option Addr) (w : World) (h : disk_Disk_Off_0 R d_0 w) : mcall P n_disk_Disk_Off [(.pointer d_0)] .b R w :=
  pc_top (T := (disk_Disk_Off_0 R d_0) w) (l := disk_Disk_Off_l1) (F := fun (x : Option Addr × Unit) => disk_Disk_Off_0 R x.1) (n := 11) (c := disk_Disk_Off_B) Tryz.func66 rfl (by kernel_rfl) (by kernel_rfl) (by kernel_rfl) (fun x w h => disk_Disk_Off_0_ok R x.1 w h) (by kernel_rfl) h
/- (*headgate disk.Disk).Files -/
noncomputable abbrev disk_Disk_Files_B : Code := (Tryz.f67.body).getD .skip
abbrev disk_Disk_Files_l1 : Slots := [(0, .p)]
abbrev disk_Disk_Files_l2 : Slots := [(0, .p), (3, .sl)]
abbrev disk_Disk_Files_l3 : Slots := [(3, .sl)]
def disk_Disk_Files_2 (R : Sl → World → Prop) (l_3 : Sl) : World → Prop :=
 R l_3
abbrev disk_Disk_Files_l4 : Slots := [(0, .p), (3, .sl)]
abbrev disk_Disk_Files_l5 : Slots := [(3, .sl), (17, I)]
abbrev disk_Disk_Files_l6 : Slots := [(0, .p), (15, .sl), (16, I)]
def disk_Disk_Files_5 (c1 : (Sl × Int × Unit) → (Option Addr × Sl × Int × Unit) → World → Prop) (R : Sl → World → Prop) (l_3 : Sl) (v17 : Int) (d_0 : Option Addr) (v15 : Sl) (v16 : Int) : World → Prop :=
 mif (decide (v17 < v16))
 (ixa P t_sl_string (Sl.v v15) v17 fun (x6 : Addr) =>
 ld P t_string x6 .s fun (x7 : Bs) =>
 mnil d_0 fun a8 =>
 ld P t_map_string_ptr_disk_file a8 .m fun (x9 : Option Nat) =>
 lku P t_map_string_ptr_disk_file x9 .s x7 .p fun (x10 : Option Addr) =>
 mdraw <|
 mnil x10 fun a11 =>
 ld P t_string a11 .s fun (x12 : Bs) =>
 mnil x10 fun a13 =>
 ld P t_string (ad a13 1) .s fun (x14 : Bs) =>
 bsl P t_sl_api_File k_api_File [(x7, x12, x14, ())] fun x15 =>
 app P #[t_sl_api_File, t_sl_api_File] t_sl_api_File (Sl.v l_3) (Sl.v x15) fun (x16 : Sl) =>
 c1 (x16, w64 (v17 + 1), ()) (d_0, v15, v16, ()))
 (disk_Disk_Files_2 R l_3)
def disk_Disk_Files_4 (R : Sl → World → Prop) (l_3 : Sl) (v17 : Int) (d_0 : Option Addr) (v15 : Sl) (v16 : Int) : World → Prop :=
 W.Loop (d_0, v15, v16, ()) (fun (c1 : (Sl × Int × Unit) → (Option Addr × Sl × Int × Unit) → World → Prop) (s : Sl × Int × Unit) => disk_Disk_Files_5 c1 R s.1 s.2.1 d_0 v15 v16) (l_3, v17, ())
def disk_Disk_Files_3 (R : Sl → World → Prop) (d_0 : Option Addr) (l_3 : Sl) : World → Prop :=
 mnil d_0 fun a2 =>
 ld P t_map_string_ptr_disk_file a2 .m fun (x3 : Option Nat) =>
 mcall P n_maps_Keys_map_string_disk_file_string_disk_file [(.map x3)] .v fun (x4 : Value) =>
 mcall P n_slices_Sorted_string [x4] .sl fun (x5 : Sl) =>
 disk_Disk_Files_4 R l_3 0 d_0 x5 (x5.len : Int)
def disk_Disk_Files_1 (R : Sl → World → Prop) (d_0 : Option Addr) (l_3 : Sl) : World → Prop :=
 disk_Disk_Files_3 R d_0 l_3
def disk_Disk_Files_0 (R : Sl → World → Prop) (d_0 : Option Addr) : World → Prop :=
 meq P .eql t_ptr_disk_Disk (.pointer d_0) (.pointer none) fun (x1 : Bool) =>
 mif x1
 (R ⟨none, 0, 0⟩)
 (disk_Disk_Files_1 R d_0 ⟨none, 0, 0⟩)
theorem disk_Disk_Files_2_ok (R : Sl → World → Prop) (l_3 : Sl) (w : World) (h : disk_Disk_Files_2 R l_3 w) : WPC P 42 [] (Code.at disk_Disk_Files_B [.snd, .snd, .snd, .snd]) (topQ P [.tmp 2] .sl R) (mkE 42 disk_Disk_Files_l3 (l_3, ())) w :=
  pc_end (T := disk_Disk_Files_2 R l_3 w) hmix (by kernel_rfl) h
theorem disk_Disk_Files_5_ok (c1 : (Sl × Int × Unit) → (Option Addr × Sl × Int × Unit) → World → Prop) (R : Sl → World → Prop) (l_3 : Sl) (v17 : Int) (d_0 : Option Addr) (v15 : Sl) (v16 : Int) (w : World) (h : disk_Disk_Files_5 c1 R l_3 v17 d_0 v15 v16 w) : WPC P 42 [] (Code.at disk_Disk_Files_B [.snd, .snd, .snd, .fst, .snd, .blk, .blk]) (thenQ (fun env => getE env disk_Disk_Files_l5 fun (s : Sl × Int × Unit) => getE env disk_Disk_Files_l6 (c1 s)) (blockQ 0 ((thenQ (fun env => getE env disk_Disk_Files_l3 fun (x : Sl × Unit) => disk_Disk_Files_2 R x.1) (topQ P [.tmp 2] .sl R)) .normal) (thenQ (fun env => getE env disk_Disk_Files_l3 fun (x : Sl × Unit) => disk_Disk_Files_2 R x.1) (topQ P [.tmp 2] .sl R)))) (mkE2 42 disk_Disk_Files_l5 disk_Disk_Files_l6 (l_3, v17, ()) (d_0, v15, v16, ())) w :=
  pc_end (T := disk_Disk_Files_5 c1 R l_3 v17 d_0 v15 v16 w) hmix (by kernel_rfl) h
theorem disk_Disk_Files_4_ok (R : Sl → World → Prop) (l_3 : Sl) (v17 : Int) (d_0 : Option Addr) (v15 : Sl) (v16 : Int) (w : World) (h : disk_Disk_Files_4 R l_3 v17 d_0 v15 v16 w) : WPC P 42 [] (Code.at disk_Disk_Files_B [.snd, .snd, .snd, .fst, .snd]) (thenQ (fun env => getE env disk_Disk_Files_l3 fun (x : Sl × Unit) => disk_Disk_Files_2 R x.1) (topQ P [.tmp 2] .sl R)) (mkE2 42 disk_Disk_Files_l5 disk_Disk_Files_l6 (l_3, v17, ()) (d_0, v15, v16, ())) w :=
  pc_loopE (l := disk_Disk_Files_l5) (l' := disk_Disk_Files_l6) (body := fun (c1 : (Sl × Int × Unit) → (Option Addr × Sl × Int × Unit) → World → Prop) (s : Sl × Int × Unit) => disk_Disk_Files_5 c1 R s.1 s.2.1 d_0 v15 v16) (id := 0) (b := (Code.at disk_Disk_Files_B [.snd, .snd, .snd, .fst, .snd, .blk, .blk])) (by kernel_rfl) (fun c1 s w h => disk_Disk_Files_5_ok c1 R s.1 s.2.1 d_0 v15 v16 w h) h
theorem disk_Disk_Files_3_ok (R : Sl → World → Prop) (d_0 : Option Addr) (l_3 : Sl) (w : World) (h : disk_Disk_Files_3 R d_0 l_3 w) : WPC P 42 [] (Code.at disk_Disk_Files_B [.snd, .snd, .snd, .fst]) (thenQ (fun env => getE env disk_Disk_Files_l3 fun (x : Sl × Unit) => disk_Disk_Files_2 R x.1) (topQ P [.tmp 2] .sl R)) (mkE 42 disk_Disk_Files_l4 (d_0, l_3, ())) w :=
  pc_cut2 (T := disk_Disk_Files_3 R d_0 l_3 w) (l := disk_Disk_Files_l5) (l' := disk_Disk_Files_l6) (F := fun (x : Sl × Int × Unit) (y : Option Addr × Sl × Int × Unit) => disk_Disk_Files_4 R x.1 x.2.1 y.1 y.2.1 y.2.2.1) hmix 1 (mkE_len ..) (by kernel_rfl) (fun x y w h => disk_Disk_Files_4_ok R x.1 x.2.1 y.1 y.2.1 y.2.2.1 w h) (by kernel_rfl) h
theorem disk_Disk_Files_1_ok (R : Sl → World → Prop) (d_0 : Option Addr) (l_3 : Sl) (w : World) (h : disk_Disk_Files_1 R d_0 l_3 w) : WPC P 42 [] (Code.at disk_Disk_Files_B [.snd, .snd, .snd]) (topQ P [.tmp 2] .sl R) (mkE 42 disk_Disk_Files_l2 (d_0, l_3, ())) w :=
  pc_seq (l := disk_Disk_Files_l3) (F := fun (x : Sl × Unit) => disk_Disk_Files_2 R x.1) (a := (Code.at disk_Disk_Files_B [.snd, .snd, .snd, .fst])) (b := (Code.at disk_Disk_Files_B [.snd, .snd, .snd, .snd])) (by kernel_rfl) (pc_cut (T := (disk_Disk_Files_3 R d_0 l_3) w) (l := disk_Disk_Files_l4) (F := fun (x : Option Addr × Sl × Unit) => disk_Disk_Files_3 R x.1 x.2.1) (c := (Code.at disk_Disk_Files_B [.snd, .snd, .snd, .fst])) hmix 0 (mkE_len ..) (by kernel_rfl) (fun x w h => disk_Disk_Files_3_ok R x.1 x.2.1 w h) (by kernel_rfl) h) (fun x w h => disk_Disk_Files_2_ok R x.1 w h)
theorem disk_Disk_Files_0_ok (R : Sl → World → Prop) (d_0 : Option Addr) (w : World) (h : disk_Disk_Files_0 R d_0 w) : WPC P 42 [] (Code.at disk_Disk_Files_B []) (topQ P [.tmp 2] .sl R) (mkE 42 disk_Disk_Files_l1 (d_0, ())) w :=
  pc_cut (T := disk_Disk_Files_0 R d_0 w) (l := disk_Disk_Files_l2) (F := fun (x : Option Addr × Sl × Unit) => disk_Disk_Files_1 R x.1 x.2.1) hmix 3 (mkE_len ..) (by kernel_rfl) (fun x w h => disk_Disk_Files_1_ok R x.1 x.2.1 w h) (by kernel_rfl) h
theorem disk_Disk_Files_call (R : Sl → World → Prop) (d_0 : Option Addr) (w : World) (h : disk_Disk_Files_0 R d_0 w) : mcall P n_disk_Disk_Files [(.pointer d_0)] .sl R w :=
  pc_top (T := (disk_Disk_Files_0 R d_0) w) (l := disk_Disk_Files_l1) (F := fun (x : Option Addr × Unit) => disk_Disk_Files_0 R x.1) (n := 42) (c := disk_Disk_Files_B) Tryz.func67 rfl (by kernel_rfl) (by kernel_rfl) (by kernel_rfl) (fun x w h => disk_Disk_Files_0_ok R x.1 w h) (by kernel_rfl) h
/- (*headgate disk.Disk).Sync -/
noncomputable abbrev disk_Disk_Sync_B : Code := (Tryz.f71.body).getD .skip
abbrev disk_Disk_Sync_l1 : Slots := [(0, .p), (1, .s)]
def disk_Disk_Sync_0 (R : Int → World → Prop) (d_0 : Option Addr) (name_1 : Bs) : World → Prop :=
 mcall P n_disk_Disk_work [(.pointer d_0), (.string ⟨name_1.toArray⟩), (.func (.func n_disk_Disk_Sync_c1) #[] #[])] I fun (x1 : Int) =>
 R x1
theorem disk_Disk_Sync_0_ok (R : Int → World → Prop) (d_0 : Option Addr) (name_1 : Bs) (w : World) (h : disk_Disk_Sync_0 R d_0 name_1 w) : WPC P 8 [] (Code.at disk_Disk_Sync_B []) (topQ P [.tmp 4] I R) (mkE 8 disk_Disk_Sync_l1 (d_0, name_1, ())) w :=
  pc_end (T := disk_Disk_Sync_0 R d_0 name_1 w) hmix (by kernel_rfl) h
theorem disk_Disk_Sync_call (R : Int → World → Prop) (d_0 : Option Addr) (name_1 : Bs) (w : World) (h : disk_Disk_Sync_0 R d_0 name_1 w) : mcall P n_disk_Disk_Sync [(.pointer d_0), (.string ⟨name_1.toArray⟩)] I R w :=
  pc_top (T := (disk_Disk_Sync_0 R d_0 name_1) w) (l := disk_Disk_Sync_l1) (F := fun (x : Option Addr × Bs × Unit) => disk_Disk_Sync_0 R x.1 x.2.1) (n := 8) (c := disk_Disk_Sync_B) Tryz.func71 rfl (by kernel_rfl) (by kernel_rfl) (by kernel_rfl) (fun x w h => disk_Disk_Sync_0_ok R x.1 x.2.1 w h) (by kernel_rfl) h
/- (*headgate disk.Disk).Read -/
noncomputable abbrev disk_Disk_Read_B : Code := (Tryz.f72.body).getD .skip
abbrev disk_Disk_Read_l1 : Slots := [(0, .p), (1, .s)]
def disk_Disk_Read_0 (R : (Bs × Int × Unit) → World → Prop) (d_0 : Option Addr) (name_1 : Bs) : World → Prop :=
 bsl P t_sl_string .s [name_1] fun x1 =>
 mcall P n_disk_Disk_ready [(.pointer d_0), (Sl.v x1)] I fun (x2 : Int) =>
 mif (x2 != 0)
 (R ([], x2, ()))
 (mnil d_0 fun a3 =>
 ld P t_map_string_ptr_disk_file a3 .m fun (x4 : Option Nat) =>
 lku P t_map_string_ptr_disk_file x4 .s name_1 .p fun (x5 : Option Addr) =>
 meq P .eql t_ptr_disk_file (.pointer x5) (.pointer none) fun (x6 : Bool) =>
 mif x6
 (R ([], 3, ()))
 (mdraw <|
 mnil x5 fun a7 =>
 ld P t_string a7 .s fun (x8 : Bs) =>
 mnil x5 fun a9 =>
 ld P t_string (ad a9 1) .s fun (x10 : Bs) =>
 mcat x8 x10 fun s11 =>
 R (s11, 0, ())))
theorem disk_Disk_Read_0_ok (R : (Bs × Int × Unit) → World → Prop) (d_0 : Option Addr) (name_1 : Bs) (w : World) (h : disk_Disk_Read_0 R d_0 name_1 w) : WPC P 32 [] (Code.at disk_Disk_Read_B []) (topQ P [.tmp 4, .tmp 5] (.tup [.s, I]) R) (mkE 32 disk_Disk_Read_l1 (d_0, name_1, ())) w :=
  pc_end (T := disk_Disk_Read_0 R d_0 name_1 w) hmix (by kernel_rfl) h
theorem disk_Disk_Read_call (R : (Bs × Int × Unit) → World → Prop) (d_0 : Option Addr) (name_1 : Bs) (w : World) (h : disk_Disk_Read_0 R d_0 name_1 w) : mcall P n_disk_Disk_Read [(.pointer d_0), (.string ⟨name_1.toArray⟩)] (.tup [.s, I]) R w :=
  pc_top (T := (disk_Disk_Read_0 R d_0 name_1) w) (l := disk_Disk_Read_l1) (F := fun (x : Option Addr × Bs × Unit) => disk_Disk_Read_0 R x.1 x.2.1) (n := 32) (c := disk_Disk_Read_B) Tryz.func72 rfl (by kernel_rfl) (by kernel_rfl) (by kernel_rfl) (fun x w h => disk_Disk_Read_0_ok R x.1 x.2.1 w h) (by kernel_rfl) h
/- (*headgate seglog.Log).file -/
noncomputable abbrev seglog_Log_file_B : Code := (Tryz.f73.body).getD .skip
abbrev seglog_Log_file_l1 : Slots := [(0, .p), (1, I)]
abbrev seglog_Log_file_l2 : Slots := [(0, .p), (1, I), (5, .ad)]
abbrev seglog_Log_file_l3 : Slots := [(0, .p), (5, .ad)]
def seglog_Log_file_2 (R : Bs → World → Prop) (l_0 : Option Addr) (b_5 : Addr) : World → Prop :=
 mdraw <|
 mnil l_0 fun a2 =>
 ld P t_string (ad a2 1) .s fun (x3 : Bs) =>
 mcat x3 [46] fun s4 =>
 mrd P (Instr.sliceAt t_arr13_uint8 (.pointer (some b_5)) none none none) .sl fun (x5 : Sl) =>
 mrd P (convert t_sl_uint8 t_string (.slice x5.a x5.len x5.cap)) .s fun (x6 : Bs) =>
 mcat s4 x6 fun s7 =>
 R s7
abbrev seglog_Log_file_l4 : Slots := [(0, .p), (1, I), (5, .ad)]
abbrev seglog_Log_file_l5 : Slots := [(1, I), (6, I)]
abbrev seglog_Log_file_l6 : Slots := [(0, .p), (5, .ad)]
def seglog_Log_file_5 (c1 : (Int × Int × Unit) → (Option Addr × Addr × Unit) → World → Prop) (R : Bs → World → Prop) (base_1 : Int) (i_6 : Int) (l_0 : Option Addr) (b_5 : Addr) : World → Prop :=
 mif (decide (i_6 ≥ 0))
 (ixa P t_arr13_uint8 (.pointer (some b_5)) i_6 fun (x8 : Addr) =>
 sto P t_uint8 x8 (.i .u8) (wr8 (w64 (48 + (base_1.tmod 10)))) <|
 c1 (w64 (base_1.tdiv 10), w64 (i_6 - 1), ()) (l_0, b_5, ()))
 (seglog_Log_file_2 R l_0 b_5)
def seglog_Log_file_4 (R : Bs → World → Prop) (base_1 : Int) (i_6 : Int) (l_0 : Option Addr) (b_5 : Addr) : World → Prop :=
 W.Loop (l_0, b_5, ()) (fun (c1 : (Int × Int × Unit) → (Option Addr × Addr × Unit) → World → Prop) (s : Int × Int × Unit) => seglog_Log_file_5 c1 R s.1 s.2.1 l_0 b_5) (base_1, i_6, ())
def seglog_Log_file_3 (R : Bs → World → Prop) (l_0 : Option Addr) (base_1 : Int) (b_5 : Addr) : World → Prop :=
 seglog_Log_file_4 R base_1 12 l_0 b_5
def seglog_Log_file_1 (R : Bs → World → Prop) (l_0 : Option Addr) (base_1 : Int) (b_5 : Addr) : World → Prop :=
 seglog_Log_file_3 R l_0 base_1 b_5
def seglog_Log_file_0 (R : Bs → World → Prop) (l_0 : Option Addr) (base_1 : Int) : World → Prop :=
 alo P t_arr13_uint8 fun a1 =>
 seglog_Log_file_1 R l_0 base_1 a1
theorem seglog_Log_file_2_ok (R : Bs → World → Prop) (l_0 : Option Addr) (b_5 : Addr) (w : World) (h : seglog_Log_file_2 R l_0 b_5 w) : WPC P 27 [] (Code.at seglog_Log_file_B [.snd, .snd, .snd]) (topQ P [.tmp 4] .s R) (mkE 27 seglog_Log_file_l3 (l_0, b_5, ())) w :=
  pc_end (T := seglog_Log_file_2 R l_0 b_5 w) hmix (by kernel_rfl) h
theorem seglog_Log_file_5_ok (c1 : (Int × Int × Unit) → (Option Addr × Addr × Unit) → World → Prop) (R : Bs → World → Prop) (base_1 : Int) (i_6 : Int) (l_0 : Option Addr) (b_5 : Addr) (w : World) (h : seglog_Log_file_5 c1 R base_1 i_6 l_0 b_5 w) : WPC P 27 [] (Code.at seglog_Log_file_B [.snd, .snd, .fst, .snd, .blk, .blk]) (thenQ (fun env => getE env seglog_Log_file_l5 fun (s : Int × Int × Unit) => getE env seglog_Log_file_l6 (c1 s)) (blockQ 0 ((thenQ (fun env => getE env seglog_Log_file_l3 fun (x : Option Addr × Addr × Unit) => seglog_Log_file_2 R x.1 x.2.1) (topQ P [.tmp 4] .s R)) .normal) (thenQ (fun env => getE env seglog_Log_file_l3 fun (x : Option Addr × Addr × Unit) => seglog_Log_file_2 R x.1 x.2.1) (topQ P [.tmp 4] .s R)))) (mkE2 27 seglog_Log_file_l5 seglog_Log_file_l6 (base_1, i_6, ()) (l_0, b_5, ())) w :=
  pc_end (T := seglog_Log_file_5 c1 R base_1 i_6 l_0 b_5 w) hmix (by kernel_rfl) h
theorem seglog_Log_file_4_ok (R : Bs → World → Prop) (base_1 : Int) (i_6 : Int) (l_0 : Option Addr) (b_5 : Addr) (w : World) (h : seglog_Log_file_4 R base_1 i_6 l_0 b_5 w) : WPC P 27 [] (Code.at seglog_Log_file_B [.snd, .snd, .fst, .snd]) (thenQ (fun env => getE env seglog_Log_file_l3 fun (x : Option Addr × Addr × Unit) => seglog_Log_file_2 R x.1 x.2.1) (topQ P [.tmp 4] .s R)) (mkE2 27 seglog_Log_file_l5 seglog_Log_file_l6 (base_1, i_6, ()) (l_0, b_5, ())) w :=
  pc_loopE (l := seglog_Log_file_l5) (l' := seglog_Log_file_l6) (body := fun (c1 : (Int × Int × Unit) → (Option Addr × Addr × Unit) → World → Prop) (s : Int × Int × Unit) => seglog_Log_file_5 c1 R s.1 s.2.1 l_0 b_5) (id := 0) (b := (Code.at seglog_Log_file_B [.snd, .snd, .fst, .snd, .blk, .blk])) (by kernel_rfl) (fun c1 s w h => seglog_Log_file_5_ok c1 R s.1 s.2.1 l_0 b_5 w h) h
theorem seglog_Log_file_3_ok (R : Bs → World → Prop) (l_0 : Option Addr) (base_1 : Int) (b_5 : Addr) (w : World) (h : seglog_Log_file_3 R l_0 base_1 b_5 w) : WPC P 27 [] (Code.at seglog_Log_file_B [.snd, .snd, .fst]) (thenQ (fun env => getE env seglog_Log_file_l3 fun (x : Option Addr × Addr × Unit) => seglog_Log_file_2 R x.1 x.2.1) (topQ P [.tmp 4] .s R)) (mkE 27 seglog_Log_file_l4 (l_0, base_1, b_5, ())) w :=
  pc_cut2 (T := seglog_Log_file_3 R l_0 base_1 b_5 w) (l := seglog_Log_file_l5) (l' := seglog_Log_file_l6) (F := fun (x : Int × Int × Unit) (y : Option Addr × Addr × Unit) => seglog_Log_file_4 R x.1 x.2.1 y.1 y.2.1) hmix 1 (mkE_len ..) (by kernel_rfl) (fun x y w h => seglog_Log_file_4_ok R x.1 x.2.1 y.1 y.2.1 w h) (by kernel_rfl) h
theorem seglog_Log_file_1_ok (R : Bs → World → Prop) (l_0 : Option Addr) (base_1 : Int) (b_5 : Addr) (w : World) (h : seglog_Log_file_1 R l_0 base_1 b_5 w) : WPC P 27 [] (Code.at seglog_Log_file_B [.snd, .snd]) (topQ P [.tmp 4] .s R) (mkE 27 seglog_Log_file_l2 (l_0, base_1, b_5, ())) w :=
  pc_seq (l := seglog_Log_file_l3) (F := fun (x : Option Addr × Addr × Unit) => seglog_Log_file_2 R x.1 x.2.1) (a := (Code.at seglog_Log_file_B [.snd, .snd, .fst])) (b := (Code.at seglog_Log_file_B [.snd, .snd, .snd])) (by kernel_rfl) (pc_cut (T := (seglog_Log_file_3 R l_0 base_1 b_5) w) (l := seglog_Log_file_l4) (F := fun (x : Option Addr × Int × Addr × Unit) => seglog_Log_file_3 R x.1 x.2.1 x.2.2.1) (c := (Code.at seglog_Log_file_B [.snd, .snd, .fst])) hmix 0 (mkE_len ..) (by kernel_rfl) (fun x w h => seglog_Log_file_3_ok R x.1 x.2.1 x.2.2.1 w h) (by kernel_rfl) h) (fun x w h => seglog_Log_file_2_ok R x.1 x.2.1 w h)
theorem seglog_Log_file_0_ok (R : Bs → World → Prop) (l_0 : Option Addr) (base_1 : Int) (w : World) (h : seglog_Log_file_0 R l_0 base_1 w) : WPC P 27 [] (Code.at seglog_Log_file_B []) (topQ P [.tmp 4] .s R) (mkE 27 seglog_Log_file_l1 (l_0, base_1, ())) w :=
  pc_cut (T := seglog_Log_file_0 R l_0 base_1 w) (l := seglog_Log_file_l2) (F := fun (x : Option Addr × Int × Addr × Unit) => seglog_Log_file_1 R x.1 x.2.1 x.2.2.1) hmix 2 (mkE_len ..) (by kernel_rfl) (fun x w h => seglog_Log_file_1_ok R x.1 x.2.1 x.2.2.1 w h) (by kernel_rfl) h
theorem seglog_Log_file_call (R : Bs → World → Prop) (l_0 : Option Addr) (base_1 : Int) (w : World) (h : seglog_Log_file_0 R l_0 base_1 w) : mcall P n_seglog_Log_file [(.pointer l_0), (.int .i64 base_1)] .s R w :=
  pc_top (T := (seglog_Log_file_0 R l_0 base_1) w) (l := seglog_Log_file_l1) (F := fun (x : Option Addr × Int × Unit) => seglog_Log_file_0 R x.1 x.2.1) (n := 27) (c := seglog_Log_file_B) Tryz.func73 rfl (by kernel_rfl) (by kernel_rfl) (by kernel_rfl) (fun x w h => seglog_Log_file_0_ok R x.1 x.2.1 w h) (by kernel_rfl) h
end Go.Proofs.YtegjokkkdkaphaaGreatDoor
