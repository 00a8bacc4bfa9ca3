/- Short texts of functions of the program, each with the proof that a call comes to it. No condition. -/
import Derived.Test.YtegjokkkdkaphaaGreatDoorNames
set_option linter.unusedVariables false
set_option linter.unusedSimpArgs false
namespace Go.Proofs.YtegjokkkdkaphaaGreatDoor
open Go Go.W
set_option maxRecDepth 100000
/- headgate headgatetop.TopTorn -/
noncomputable abbrev headgatetop_TopTorn_B : Code := (Tryz.f3.body).getD .skip
abbrev headgatetop_TopTorn_l1 : Slots := [(0, .sl), (1, I)]
abbrev headgatetop_TopTorn_l2 : Slots := [(0, .sl), (1, I)]
abbrev headgatetop_TopTorn_l3 : Slots := [(0, .sl), (1, I), (5, .s), (6, I), (7, .sl), (8, .sl), (9, .sl)]
abbrev headgatetop_TopTorn_l4 : Slots := [(1, I), (5, .s), (7, .sl), (8, .sl), (9, .sl)]
abbrev headgatetop_TopTorn_l5 : Slots := [(5, .s), (7, .sl), (8, .sl), (9, .sl), (18, I)]
abbrev headgatetop_TopTorn_l6 : Slots := [(19, I), (20, I)]
abbrev headgatetop_TopTorn_l7 : Slots := [(5, .s), (7, .sl), (8, .sl), (9, .sl), (18, I)]
abbrev headgatetop_TopTorn_l8 : Slots := [(5, .s), (7, .sl), (8, .sl), (18, I), (19, I), (20, I)]
abbrev headgatetop_TopTorn_l9 : Slots := [(6, I), (7, .sl), (8, .sl), (19, I), (21, .sl)]
abbrev headgatetop_TopTorn_l10 : Slots := []
def headgatetop_TopTorn_8 (R : Bool → World → Prop) : World → Prop :=
 mcall P n_headgatetop_awake17 [] .b fun (x4 : Bool) =>
 R x4
abbrev headgatetop_TopTorn_l11 : Slots := [(6, I), (7, .sl), (8, .sl), (19, I), (21, .sl)]
abbrev headgatetop_TopTorn_l12 : Slots := [(6, I), (23, I)]
abbrev headgatetop_TopTorn_l13 : Slots := [(7, .sl), (8, .sl), (19, I), (21, .sl)]
def headgatetop_TopTorn_11 (c1 : (Int × Int × Unit) → (Sl × Sl × Int × Sl × Unit) → World → Prop) (R : Bool → World → Prop) (base_6 : Int) (i_23 : Int) (told_7 : Sl) (sizes_8 : Sl) (k_19 : Int) (rows_21 : Sl) : World → Prop :=
 mif (decide (i_23 < k_19))
 (ixa P t_sl_api_Entry (Sl.v rows_21) i_23 fun (x5 : Addr) =>
 ld P t_string (ad x5 2) .s fun (x6 : Bs) =>
 mcall P n_lz_Unpack [(.string ⟨x6.toArray⟩), (.int .i64 1048576)] (.tup [.s, I]) fun (x7 : Bs × Int × Unit) =>
 mcall P n_batch_Decode [(.string ⟨x7.1.toArray⟩)] (.tup [k_api_Batch, I]) fun (x8 : T_api_Batch × Int × Unit) =>
 alo P t_api_Batch fun a9 =>
 sto P t_api_Batch a9 k_api_Batch x8.1 <|
 ld P t_api_Batch a9 k_api_Batch fun (x10 : T_api_Batch) =>
 mcall P n_batch_Encode [(KV k_api_Batch x10)] (.tup [.s, I]) fun (x11 : Bs × Int × Unit) =>
 mdraw <|
 mif (x7.2.1 != 0)
 (R false)
 (mif (x8.2.1 != 0)
 (R false)
 (mif (x11.2.1 != 0)
 (R false)
 (ixa P t_sl_string (Sl.v told_7) i_23 fun (x12 : Addr) =>
 ld P t_string x12 .s fun (x13 : Bs) =>
 mif (!(x7.1 == x13))
 (R false)
 (mif (!(x11.1 == x7.1))
 (R false)
 (ixa P t_sl_api_Entry (Sl.v rows_21) i_23 fun (x14 : Addr) =>
 ld P t_int x14 I fun (x15 : Int) =>
 mif (x15 != base_6)
 (R false)
 (ixa P t_sl_api_Entry (Sl.v rows_21) i_23 fun (x16 : Addr) =>
 ld P t_int (ad x16 1) I fun (x17 : Int) =>
 ixa P t_sl_int (Sl.v sizes_8) i_23 fun (x18 : Addr) =>
 ld P t_int x18 I fun (x19 : Int) =>
 mif (x17 != x19)
 (R false)
 (ixa P t_sl_int (Sl.v sizes_8) i_23 fun (x20 : Addr) =>
 ld P t_int x20 I fun (x21 : Int) =>
 c1 (w64 (base_6 + x21), w64 (i_23 + 1), ()) (told_7, sizes_8, k_19, rows_21, ())))))))))
 (headgatetop_TopTorn_8 R)
def headgatetop_TopTorn_10 (R : Bool → World → Prop) (base_6 : Int) (i_23 : Int) (told_7 : Sl) (sizes_8 : Sl) (k_19 : Int) (rows_21 : Sl) : World → Prop :=
 W.Loop (told_7, sizes_8, k_19, rows_21, ()) (fun (c1 : (Int × Int × Unit) → (Sl × Sl × Int × Sl × Unit) → World → Prop) (s : Int × Int × Unit) => headgatetop_TopTorn_11 c1 R s.1 s.2.1 told_7 sizes_8 k_19 rows_21) (base_6, i_23, ())
def headgatetop_TopTorn_9 (R : Bool → World → Prop) (base_6 : Int) (told_7 : Sl) (sizes_8 : Sl) (k_19 : Int) (rows_21 : Sl) : World → Prop :=
 headgatetop_TopTorn_10 R base_6 0 told_7 sizes_8 k_19 rows_21
def headgatetop_TopTorn_7 (R : Bool → World → Prop) (base_6 : Int) (told_7 : Sl) (sizes_8 : Sl) (k_19 : Int) (rows_21 : Sl) : World → Prop :=
 headgatetop_TopTorn_9 R base_6 told_7 sizes_8 k_19 rows_21
def headgatetop_TopTorn_6 (R : Bool → World → Prop) (all_5 : Bs) (told_7 : Sl) (sizes_8 : Sl) (at_18 : Int) (k_19 : Int) (size_20 : Int) : World → Prop :=
 sls P t_string all_5 none (some at_18) fun (x2 : Bs) =>
 mcall P n_frame_Row [(.string ⟨x2.toArray⟩)] (.tup [.sl, I]) fun (x3 : Sl × Int × Unit) =>
 mif ((x3.1.len : Int) != k_19)
 (R false)
 (mif (x3.2.1 != size_20)
 (R false)
 (headgatetop_TopTorn_7 R 0 told_7 sizes_8 k_19 x3.1))
def headgatetop_TopTorn_12 (c1 : (Int × Int × Unit) → (Bs × Sl × Sl × Sl × Int × Unit) → World → Prop) (R : Bool → World → Prop) (k_19 : Int) (size_20 : Int) (all_5 : Bs) (told_7 : Sl) (sizes_8 : Sl) (ends_9 : Sl) (at_18 : Int) : World → Prop :=
 mif (decide (k_19 < (ends_9.len : Int)))
 (ixa P t_sl_int (Sl.v ends_9) k_19 fun (x22 : Addr) =>
 ld P t_int x22 I fun (x23 : Int) =>
 mif (decide (x23 ≤ at_18))
 (ixa P t_sl_int (Sl.v ends_9) k_19 fun (x24 : Addr) =>
 ld P t_int x24 I fun (x25 : Int) =>
 c1 (w64 (k_19 + 1), x25, ()) (all_5, told_7, sizes_8, ends_9, at_18, ()))
 (headgatetop_TopTorn_6 R all_5 told_7 sizes_8 at_18 k_19 size_20))
 (headgatetop_TopTorn_6 R all_5 told_7 sizes_8 at_18 k_19 size_20)
def headgatetop_TopTorn_5 (R : Bool → World → Prop) (k_19 : Int) (size_20 : Int) (all_5 : Bs) (told_7 : Sl) (sizes_8 : Sl) (ends_9 : Sl) (at_18 : Int) : World → Prop :=
 W.Loop (all_5, told_7, sizes_8, ends_9, at_18, ()) (fun (c1 : (Int × Int × Unit) → (Bs × Sl × Sl × Sl × Int × Unit) → World → Prop) (s : Int × Int × Unit) => headgatetop_TopTorn_12 c1 R s.1 s.2.1 all_5 told_7 sizes_8 ends_9 at_18) (k_19, size_20, ())
def headgatetop_TopTorn_4 (R : Bool → World → Prop) (all_5 : Bs) (told_7 : Sl) (sizes_8 : Sl) (ends_9 : Sl) (at_18 : Int) : World → Prop :=
 headgatetop_TopTorn_5 R 0 0 all_5 told_7 sizes_8 ends_9 at_18
def headgatetop_TopTorn_3 (R : Bool → World → Prop) (cut_1 : Int) (all_5 : Bs) (told_7 : Sl) (sizes_8 : Sl) (ends_9 : Sl) : World → Prop :=
 mdz (w64 ((all_5.length : Int) + 1)) <|
 mif (decide ((cut_1.tmod (w64 ((all_5.length : Int) + 1))) < 0))
 (headgatetop_TopTorn_4 R all_5 told_7 sizes_8 ends_9 (w64 ((w64 ((cut_1.tmod (w64 ((all_5.length : Int) + 1))) + (all_5.length : Int))) + 1)))
 (headgatetop_TopTorn_4 R all_5 told_7 sizes_8 ends_9 (cut_1.tmod (w64 ((all_5.length : Int) + 1))))
abbrev headgatetop_TopTorn_l14 : Slots := [(0, .sl), (1, I), (5, .s), (6, I), (7, .sl), (8, .sl), (9, .sl)]
abbrev headgatetop_TopTorn_l15 : Slots := [(5, .s), (6, I), (7, .sl), (8, .sl), (9, .sl), (10, I)]
abbrev headgatetop_TopTorn_l16 : Slots := [(0, .sl), (1, I)]
abbrev headgatetop_TopTorn_l17 : Slots := [(0, .sl), (1, I), (5, .s), (6, I), (7, .sl), (8, .sl), (9, .sl), (10, I)]
def headgatetop_TopTorn_16 (c1 : (Bs × Int × Sl × Sl × Sl × Int × Unit) → (Sl × Int × Unit) → World → Prop) (R : Bool → World → Prop) (l_0 : Sl) (cut_1 : Int) (all_5 : Bs) (base_6 : Int) (told_7 : Sl) (sizes_8 : Sl) (ends_9 : Sl) (i_10 : Int) : World → Prop :=
 c1 (all_5, base_6, told_7, sizes_8, ends_9, w64 (i_10 + 1), ()) (l_0, cut_1, ())
def headgatetop_TopTorn_15 (c1 : (Bs × Int × Sl × Sl × Sl × Int × Unit) → (Sl × Int × Unit) → World → Prop) (R : Bool → World → Prop) (all_5 : Bs) (base_6 : Int) (told_7 : Sl) (sizes_8 : Sl) (ends_9 : Sl) (i_10 : Int) (l_0 : Sl) (cut_1 : Int) : World → Prop :=
 mif (decide (i_10 < (l_0.len : Int)))
 (ixa P t_sl_api_Batch (Sl.v l_0) i_10 fun (x26 : Addr) =>
 ld P t_api_Batch x26 k_api_Batch fun (x27 : T_api_Batch) =>
 mcall P n_headgateref06_May [(KV k_api_Batch x27)] .b fun (x28 : Bool) =>
 mif (!x28)
 (headgatetop_TopTorn_16 c1 R l_0 cut_1 all_5 base_6 told_7 sizes_8 ends_9 i_10)
 (ixa P t_sl_api_Batch (Sl.v l_0) i_10 fun (x29 : Addr) =>
 ld P t_api_Batch x29 k_api_Batch fun (x30 : T_api_Batch) =>
 mcall P n_batch_Encode [(KV k_api_Batch x30)] (.tup [.s, I]) fun (x31 : Bs × Int × Unit) =>
 mcall P n_lz_Pack [(.string ⟨x31.1.toArray⟩)] (.tup [.s, I]) fun (x32 : Bs × Int × Unit) =>
 ixa P t_sl_api_Batch (Sl.v l_0) i_10 fun (x33 : Addr) =>
 ld P t_api_Batch x33 k_api_Batch fun (x34 : T_api_Batch) =>
 mcall P n_batch_Len [(KV k_api_Batch x34)] I fun (x35 : Int) =>
 mcall P n_frame_Lay [(KV k_api_Record (base_6, x35, x32.1, ()))] (.tup [.s, I]) fun (x36 : Bs × Int × Unit) =>
 mif (x31.2.1 != 0)
 (R false)
 (mif (x32.2.1 != 0)
 (R false)
 (mif (x36.2.1 != 0)
 (R false)
 (mif (x36.1 == [])
 (R false)
 (mcat all_5 x36.1 fun s37 =>
 bsl P t_sl_string .s [x31.1] fun x38 =>
 app P #[t_sl_string, t_sl_string] t_sl_string (Sl.v told_7) (Sl.v x38) fun (x39 : Sl) =>
 bsl P t_sl_int I [x35] fun x40 =>
 app P #[t_sl_int, t_sl_int] t_sl_int (Sl.v sizes_8) (Sl.v x40) fun (x41 : Sl) =>
 bsl P t_sl_int I [(s37.length : Int)] fun x42 =>
 app P #[t_sl_int, t_sl_int] t_sl_int (Sl.v ends_9) (Sl.v x42) fun (x43 : Sl) =>
 headgatetop_TopTorn_16 c1 R l_0 cut_1 s37 (w64 (base_6 + x35)) x39 x41 x43 i_10))))))
 (headgatetop_TopTorn_3 R cut_1 all_5 told_7 sizes_8 ends_9)
def headgatetop_TopTorn_14 (R : Bool → World → Prop) (all_5 : Bs) (base_6 : Int) (told_7 : Sl) (sizes_8 : Sl) (ends_9 : Sl) (i_10 : Int) (l_0 : Sl) (cut_1 : Int) : World → Prop :=
 W.Loop (l_0, cut_1, ()) (fun (c1 : (Bs × Int × Sl × Sl × Sl × Int × Unit) → (Sl × Int × Unit) → World → Prop) (s : Bs × Int × Sl × Sl × Sl × Int × Unit) => headgatetop_TopTorn_15 c1 R s.1 s.2.1 s.2.2.1 s.2.2.2.1 s.2.2.2.2.1 s.2.2.2.2.2.1 l_0 cut_1) (all_5, base_6, told_7, sizes_8, ends_9, i_10, ())
def headgatetop_TopTorn_13 (R : Bool → World → Prop) (l_0 : Sl) (cut_1 : Int) (all_5 : Bs) (base_6 : Int) (told_7 : Sl) (sizes_8 : Sl) (ends_9 : Sl) : World → Prop :=
 headgatetop_TopTorn_14 R all_5 base_6 told_7 sizes_8 ends_9 0 l_0 cut_1
def headgatetop_TopTorn_2 (R : Bool → World → Prop) (l_0 : Sl) (cut_1 : Int) (all_5 : Bs) (base_6 : Int) (told_7 : Sl) (sizes_8 : Sl) (ends_9 : Sl) : World → Prop :=
 headgatetop_TopTorn_13 R l_0 cut_1 all_5 base_6 told_7 sizes_8 ends_9
def headgatetop_TopTorn_1 (R : Bool → World → Prop) (l_0 : Sl) (cut_1 : Int) : World → Prop :=
 headgatetop_TopTorn_2 R l_0 cut_1 [] 0 ⟨none, 0, 0⟩ ⟨none, 0, 0⟩ ⟨none, 0, 0⟩
def headgatetop_TopTorn_0 (R : Bool → World → Prop) (l_0 : Sl) (cut_1 : Int) : World → Prop :=
 mif (decide ((l_0.len : Int) > 12))
 (slc P t_sl_api_Batch l_0 none (some 12) fun (x1 : Sl) =>
 headgatetop_TopTorn_1 R x1 cut_1)
 (headgatetop_TopTorn_1 R l_0 cut_1)
theorem headgatetop_TopTorn_8_ok (R : Bool → World → Prop) (w : World) (h : headgatetop_TopTorn_8 R w) : WPC P 227 [] (Code.at headgatetop_TopTorn_B [.snd, .snd, .snd, .snd, .snd, .snd, .snd, .snd, .snd, .snd, .snd, .snd, .snd, .snd]) (topQ P [.tmp 4] .b R) (mkE 227 headgatetop_TopTorn_l10 (())) w :=
  pc_end (T := headgatetop_TopTorn_8 R w) hmix (by kernel_rfl) h
theorem headgatetop_TopTorn_11_ok (c1 : (Int × Int × Unit) → (Sl × Sl × Int × Sl × Unit) → World → Prop) (R : Bool → World → Prop) (base_6 : Int) (i_23 : Int) (told_7 : Sl) (sizes_8 : Sl) (k_19 : Int) (rows_21 : Sl) (w : World) (h : headgatetop_TopTorn_11 c1 R base_6 i_23 told_7 sizes_8 k_19 rows_21 w) : WPC P 227 [] (Code.at headgatetop_TopTorn_B [.snd, .snd, .snd, .snd, .snd, .snd, .snd, .snd, .snd, .snd, .snd, .snd, .snd, .fst, .snd, .blk, .blk]) (thenQ (fun env => getE env headgatetop_TopTorn_l12 fun (s : Int × Int × Unit) => getE env headgatetop_TopTorn_l13 (c1 s)) (blockQ 4 ((thenQ (fun env => getE env headgatetop_TopTorn_l10 fun (x : Unit) => headgatetop_TopTorn_8 R) (topQ P [.tmp 4] .b R)) .normal) (thenQ (fun env => getE env headgatetop_TopTorn_l10 fun (x : Unit) => headgatetop_TopTorn_8 R) (topQ P [.tmp 4] .b R)))) (mkE2 227 headgatetop_TopTorn_l12 headgatetop_TopTorn_l13 (base_6, i_23, ()) (told_7, sizes_8, k_19, rows_21, ())) w :=
  pc_end (T := headgatetop_TopTorn_11 c1 R base_6 i_23 told_7 sizes_8 k_19 rows_21 w) hmix (by kernel_rfl) h
theorem headgatetop_TopTorn_10_ok (R : Bool → World → Prop) (base_6 : Int) (i_23 : Int) (told_7 : Sl) (sizes_8 : Sl) (k_19 : Int) (rows_21 : Sl) (w : World) (h : headgatetop_TopTorn_10 R base_6 i_23 told_7 sizes_8 k_19 rows_21 w) : WPC P 227 [] (Code.at headgatetop_TopTorn_B [.snd, .snd, .snd, .snd, .snd, .snd, .snd, .snd, .snd, .snd, .snd, .snd, .snd, .fst, .snd]) (thenQ (fun env => getE env headgatetop_TopTorn_l10 fun (x : Unit) => headgatetop_TopTorn_8 R) (topQ P [.tmp 4] .b R)) (mkE2 227 headgatetop_TopTorn_l12 headgatetop_TopTorn_l13 (base_6, i_23, ()) (told_7, sizes_8, k_19, rows_21, ())) w :=
  pc_loopE (l := headgatetop_TopTorn_l12) (l' := headgatetop_TopTorn_l13) (body := fun (c1 : (Int × Int × Unit) → (Sl × Sl × Int × Sl × Unit) → World → Prop) (s : Int × Int × Unit) => headgatetop_TopTorn_11 c1 R s.1 s.2.1 told_7 sizes_8 k_19 rows_21) (id := 4) (b := (Code.at headgatetop_TopTorn_B [.snd, .snd, .snd, .snd, .snd, .snd, .snd, .snd, .snd, .snd, .snd, .snd, .snd, .fst, .snd, .blk, .blk])) (by kernel_rfl) (fun c1 s w h => headgatetop_TopTorn_11_ok c1 R s.1 s.2.1 told_7 sizes_8 k_19 rows_21 w h) h
theorem headgatetop_TopTorn_9_ok (R : Bool → World → Prop) (base_6 : Int) (told_7 : Sl) (sizes_8 : Sl) (k_19 : Int) (rows_21 : Sl) (w : World) (h : headgatetop_TopTorn_9 R base_6 told_7 sizes_8 k_19 rows_21 w) : WPC P 227 [] (Code.at headgatetop_TopTorn_B [.snd, .snd, .snd, .snd, .snd, .snd, .snd, .snd, .snd, .snd, .snd, .snd, .snd, .fst]) (thenQ (fun env => getE env headgatetop_TopTorn_l10 fun (x : Unit) => headgatetop_TopTorn_8 R) (topQ P [.tmp 4] .b R)) (mkE 227 headgatetop_TopTorn_l11 (base_6, told_7, sizes_8, k_19, rows_21, ())) w :=
  pc_cut2 (T := headgatetop_TopTorn_9 R base_6 told_7 sizes_8 k_19 rows_21 w) (l := headgatetop_TopTorn_l12) (l' := headgatetop_TopTorn_l13) (F := fun (x : Int × Int × Unit) (y : Sl × Sl × Int × Sl × Unit) => headgatetop_TopTorn_10 R x.1 x.2.1 y.1 y.2.1 y.2.2.1 y.2.2.2.1) hmix 1 (mkE_len ..) (by kernel_rfl) (fun x y w h => headgatetop_TopTorn_10_ok R x.1 x.2.1 y.1 y.2.1 y.2.2.1 y.2.2.2.1 w h) (by kernel_rfl) h
theorem headgatetop_TopTorn_7_ok (R : Bool → World → Prop) (base_6 : Int) (told_7 : Sl) (sizes_8 : Sl) (k_19 : Int) (rows_21 : Sl) (w : World) (h : headgatetop_TopTorn_7 R base_6 told_7 sizes_8 k_19 rows_21 w) : WPC P 227 [] (Code.at headgatetop_TopTorn_B [.snd, .snd, .snd, .snd, .snd, .snd, .snd, .snd, .snd, .snd, .snd, .snd, .snd]) (topQ P [.tmp 4] .b R) (mkE 227 headgatetop_TopTorn_l9 (base_6, told_7, sizes_8, k_19, rows_21, ())) w :=
  pc_seq (l := headgatetop_TopTorn_l10) (F := fun (x : Unit) => headgatetop_TopTorn_8 R) (a := (Code.at headgatetop_TopTorn_B [.snd, .snd, .snd, .snd, .snd, .snd, .snd, .snd, .snd, .snd, .snd, .snd, .snd, .fst])) (b := (Code.at headgatetop_TopTorn_B [.snd, .snd, .snd, .snd, .snd, .snd, .snd, .snd, .snd, .snd, .snd, .snd, .snd, .snd])) (by kernel_rfl) (pc_cut (T := (headgatetop_TopTorn_9 R base_6 told_7 sizes_8 k_19 rows_21) w) (l := headgatetop_TopTorn_l11) (F := fun (x : Int × Sl × Sl × Int × Sl × Unit) => headgatetop_TopTorn_9 R x.1 x.2.1 x.2.2.1 x.2.2.2.1 x.2.2.2.2.1) (c := (Code.at headgatetop_TopTorn_B [.snd, .snd, .snd, .snd, .snd, .snd, .snd, .snd, .snd, .snd, .snd, .snd, .snd, .fst])) hmix 0 (mkE_len ..) (by kernel_rfl) (fun x w h => headgatetop_TopTorn_9_ok R x.1 x.2.1 x.2.2.1 x.2.2.2.1 x.2.2.2.2.1 w h) (by kernel_rfl) h) (fun x w h => headgatetop_TopTorn_8_ok R w h)
theorem headgatetop_TopTorn_6_ok (R : Bool → World → Prop) (all_5 : Bs) (told_7 : Sl) (sizes_8 : Sl) (at_18 : Int) (k_19 : Int) (size_20 : Int) (w : World) (h : headgatetop_TopTorn_6 R all_5 told_7 sizes_8 at_18 k_19 size_20 w) : WPC P 227 [] (Code.at headgatetop_TopTorn_B [.snd, .snd, .snd, .snd, .snd, .snd, .snd, .snd, .snd, .snd]) (topQ P [.tmp 4] .b R) (mkE 227 headgatetop_TopTorn_l8 (all_5, told_7, sizes_8, at_18, k_19, size_20, ())) w :=
  pc_cut (T := headgatetop_TopTorn_6 R all_5 told_7 sizes_8 at_18 k_19 size_20 w) (l := headgatetop_TopTorn_l9) (F := fun (x : Int × Sl × Sl × Int × Sl × Unit) => headgatetop_TopTorn_7 R x.1 x.2.1 x.2.2.1 x.2.2.2.1 x.2.2.2.2.1) hmix 3 (mkE_len ..) (by kernel_rfl) (fun x w h => headgatetop_TopTorn_7_ok R x.1 x.2.1 x.2.2.1 x.2.2.2.1 x.2.2.2.2.1 w h) (by kernel_rfl) h
theorem headgatetop_TopTorn_12_ok (c1 : (Int × Int × Unit) → (Bs × Sl × Sl × Sl × Int × Unit) → World → Prop) (R : Bool → World → Prop) (k_19 : Int) (size_20 : Int) (all_5 : Bs) (told_7 : Sl) (sizes_8 : Sl) (ends_9 : Sl) (at_18 : Int) (w : World) (h : headgatetop_TopTorn_12 c1 R k_19 size_20 all_5 told_7 sizes_8 ends_9 at_18 w) : WPC P 227 [] (Code.at headgatetop_TopTorn_B [.snd, .snd, .snd, .snd, .snd, .snd, .snd, .snd, .snd, .fst, .blk, .blk]) (thenQ (fun env => getE env headgatetop_TopTorn_l6 fun (s : Int × Int × Unit) => getE env headgatetop_TopTorn_l7 (c1 s)) (blockQ 2 (fun env => getE env headgatetop_TopTorn_l8 fun (x : Bs × Sl × Sl × Int × Int × Int × Unit) => headgatetop_TopTorn_6 R x.1 x.2.1 x.2.2.1 x.2.2.2.1 x.2.2.2.2.1 x.2.2.2.2.2.1) (topQ P [.tmp 4] .b R))) (mkE2 227 headgatetop_TopTorn_l6 headgatetop_TopTorn_l7 (k_19, size_20, ()) (all_5, told_7, sizes_8, ends_9, at_18, ())) w :=
  pc_end (T := headgatetop_TopTorn_12 c1 R k_19 size_20 all_5 told_7 sizes_8 ends_9 at_18 w) hmix (by kernel_rfl) h
theorem headgatetop_TopTorn_5_ok (R : Bool → World → Prop) (k_19 : Int) (size_20 : Int) (all_5 : Bs) (told_7 : Sl) (sizes_8 : Sl) (ends_9 : Sl) (at_18 : Int) (w : World) (h : headgatetop_TopTorn_5 R k_19 size_20 all_5 told_7 sizes_8 ends_9 at_18 w) : WPC P 227 [] (Code.at headgatetop_TopTorn_B [.snd, .snd, .snd, .snd, .snd, .snd, .snd, .snd, .snd]) (topQ P [.tmp 4] .b R) (mkE2 227 headgatetop_TopTorn_l6 headgatetop_TopTorn_l7 (k_19, size_20, ()) (all_5, told_7, sizes_8, ends_9, at_18, ())) w :=
  pc_loopR (l := headgatetop_TopTorn_l6) (l' := headgatetop_TopTorn_l7) (body := fun (c1 : (Int × Int × Unit) → (Bs × Sl × Sl × Sl × Int × Unit) → World → Prop) (s : Int × Int × Unit) => headgatetop_TopTorn_12 c1 R s.1 s.2.1 all_5 told_7 sizes_8 ends_9 at_18) (lr := headgatetop_TopTorn_l8) (FR := fun (x : Bs × Sl × Sl × Int × Int × Int × Unit) => headgatetop_TopTorn_6 R x.1 x.2.1 x.2.2.1 x.2.2.2.1 x.2.2.2.2.1 x.2.2.2.2.2.1) (id := 2) (b := (Code.at headgatetop_TopTorn_B [.snd, .snd, .snd, .snd, .snd, .snd, .snd, .snd, .snd, .fst, .blk, .blk])) (rest := (Code.at headgatetop_TopTorn_B [.snd, .snd, .snd, .snd, .snd, .snd, .snd, .snd, .snd, .snd])) (by kernel_rfl) (fun c1 s w h => headgatetop_TopTorn_12_ok c1 R s.1 s.2.1 all_5 told_7 sizes_8 ends_9 at_18 w h) (fun x w h => headgatetop_TopTorn_6_ok R x.1 x.2.1 x.2.2.1 x.2.2.2.1 x.2.2.2.2.1 x.2.2.2.2.2.1 w h) h
theorem headgatetop_TopTorn_4_ok (R : Bool → World → Prop) (all_5 : Bs) (told_7 : Sl) (sizes_8 : Sl) (ends_9 : Sl) (at_18 : Int) (w : World) (h : headgatetop_TopTorn_4 R all_5 told_7 sizes_8 ends_9 at_18 w) : WPC P 227 [] (Code.at headgatetop_TopTorn_B [.snd, .snd, .snd, .snd, .snd, .snd, .snd, .snd]) (topQ P [.tmp 4] .b R) (mkE 227 headgatetop_TopTorn_l5 (all_5, told_7, sizes_8, ends_9, at_18, ())) w :=
  pc_cut2 (T := headgatetop_TopTorn_4 R all_5 told_7 sizes_8 ends_9 at_18 w) (l := headgatetop_TopTorn_l6) (l' := headgatetop_TopTorn_l7) (F := fun (x : Int × Int × Unit) (y : Bs × Sl × Sl × Sl × Int × Unit) => headgatetop_TopTorn_5 R x.1 x.2.1 y.1 y.2.1 y.2.2.1 y.2.2.2.1 y.2.2.2.2.1) hmix 1 (mkE_len ..) (by kernel_rfl) (fun x y w h => headgatetop_TopTorn_5_ok R x.1 x.2.1 y.1 y.2.1 y.2.2.1 y.2.2.2.1 y.2.2.2.2.1 w h) (by kernel_rfl) h
theorem headgatetop_TopTorn_3_ok (R : Bool → World → Prop) (cut_1 : Int) (all_5 : Bs) (told_7 : Sl) (sizes_8 : Sl) (ends_9 : Sl) (w : World) (h : headgatetop_TopTorn_3 R cut_1 all_5 told_7 sizes_8 ends_9 w) : WPC P 227 [] (Code.at headgatetop_TopTorn_B [.snd, .snd, .snd, .snd, .snd, .snd]) (topQ P [.tmp 4] .b R) (mkE 227 headgatetop_TopTorn_l4 (cut_1, all_5, told_7, sizes_8, ends_9, ())) w :=
  pc_cut (T := headgatetop_TopTorn_3 R cut_1 all_5 told_7 sizes_8 ends_9 w) (l := headgatetop_TopTorn_l5) (F := fun (x : Bs × Sl × Sl × Sl × Int × Unit) => headgatetop_TopTorn_4 R x.1 x.2.1 x.2.2.1 x.2.2.2.1 x.2.2.2.2.1) hmix 2 (mkE_len ..) (by kernel_rfl) (fun x w h => headgatetop_TopTorn_4_ok R x.1 x.2.1 x.2.2.1 x.2.2.2.1 x.2.2.2.2.1 w h) (by kernel_rfl) h
theorem headgatetop_TopTorn_16_ok (c1 : (Bs × Int × Sl × Sl × Sl × Int × Unit) → (Sl × Int × Unit) → World → Prop) (R : Bool → World → Prop) (l_0 : Sl) (cut_1 : Int) (all_5 : Bs) (base_6 : Int) (told_7 : Sl) (sizes_8 : Sl) (ends_9 : Sl) (i_10 : Int) (w : World) (h : headgatetop_TopTorn_16 c1 R l_0 cut_1 all_5 base_6 told_7 sizes_8 ends_9 i_10 w) : WPC P 227 [] (Code.at headgatetop_TopTorn_B [.snd, .snd, .snd, .snd, .snd, .fst, .snd, .blk, .blk, .snd, .snd]) (thenQ (fun env => getE env headgatetop_TopTorn_l15 fun (s : Bs × Int × Sl × Sl × Sl × Int × Unit) => getE env headgatetop_TopTorn_l16 (c1 s)) (blockQ 0 ((thenQ (fun env => getE env headgatetop_TopTorn_l4 fun (x : Int × Bs × Sl × Sl × Sl × Unit) => headgatetop_TopTorn_3 R x.1 x.2.1 x.2.2.1 x.2.2.2.1 x.2.2.2.2.1) (topQ P [.tmp 4] .b R)) .normal) (thenQ (fun env => getE env headgatetop_TopTorn_l4 fun (x : Int × Bs × Sl × Sl × Sl × Unit) => headgatetop_TopTorn_3 R x.1 x.2.1 x.2.2.1 x.2.2.2.1 x.2.2.2.2.1) (topQ P [.tmp 4] .b R)))) (mkE 227 headgatetop_TopTorn_l17 (l_0, cut_1, all_5, base_6, told_7, sizes_8, ends_9, i_10, ())) w :=
  pc_end (T := headgatetop_TopTorn_16 c1 R l_0 cut_1 all_5 base_6 told_7 sizes_8 ends_9 i_10 w) hmix (by kernel_rfl) h
theorem headgatetop_TopTorn_15_ok (c1 : (Bs × Int × Sl × Sl × Sl × Int × Unit) → (Sl × Int × Unit) → World → Prop) (R : Bool → World → Prop) (all_5 : Bs) (base_6 : Int) (told_7 : Sl) (sizes_8 : Sl) (ends_9 : Sl) (i_10 : Int) (l_0 : Sl) (cut_1 : Int) (w : World) (h : headgatetop_TopTorn_15 c1 R all_5 base_6 told_7 sizes_8 ends_9 i_10 l_0 cut_1 w) : WPC P 227 [] (Code.at headgatetop_TopTorn_B [.snd, .snd, .snd, .snd, .snd, .fst, .snd, .blk, .blk]) (thenQ (fun env => getE env headgatetop_TopTorn_l15 fun (s : Bs × Int × Sl × Sl × Sl × Int × Unit) => getE env headgatetop_TopTorn_l16 (c1 s)) (blockQ 0 ((thenQ (fun env => getE env headgatetop_TopTorn_l4 fun (x : Int × Bs × Sl × Sl × Sl × Unit) => headgatetop_TopTorn_3 R x.1 x.2.1 x.2.2.1 x.2.2.2.1 x.2.2.2.2.1) (topQ P [.tmp 4] .b R)) .normal) (thenQ (fun env => getE env headgatetop_TopTorn_l4 fun (x : Int × Bs × Sl × Sl × Sl × Unit) => headgatetop_TopTorn_3 R x.1 x.2.1 x.2.2.1 x.2.2.2.1 x.2.2.2.2.1) (topQ P [.tmp 4] .b R)))) (mkE2 227 headgatetop_TopTorn_l15 headgatetop_TopTorn_l16 (all_5, base_6, told_7, sizes_8, ends_9, i_10, ()) (l_0, cut_1, ())) w :=
  pc_cut (T := headgatetop_TopTorn_15 c1 R all_5 base_6 told_7 sizes_8 ends_9 i_10 l_0 cut_1 w) (l := headgatetop_TopTorn_l17) (F := fun (x : Sl × Int × Bs × Int × Sl × Sl × Sl × Int × Unit) => headgatetop_TopTorn_16 c1 R x.1 x.2.1 x.2.2.1 x.2.2.2.1 x.2.2.2.2.1 x.2.2.2.2.2.1 x.2.2.2.2.2.2.1 x.2.2.2.2.2.2.2.1) hmix 2 (mkE2_len ..) (by kernel_rfl) (fun x w h => headgatetop_TopTorn_16_ok c1 R x.1 x.2.1 x.2.2.1 x.2.2.2.1 x.2.2.2.2.1 x.2.2.2.2.2.1 x.2.2.2.2.2.2.1 x.2.2.2.2.2.2.2.1 w h) (by kernel_rfl) h
theorem headgatetop_TopTorn_14_ok (R : Bool → World → Prop) (all_5 : Bs) (base_6 : Int) (told_7 : Sl) (sizes_8 : Sl) (ends_9 : Sl) (i_10 : Int) (l_0 : Sl) (cut_1 : Int) (w : World) (h : headgatetop_TopTorn_14 R all_5 base_6 told_7 sizes_8 ends_9 i_10 l_0 cut_1 w) : WPC P 227 [] (Code.at headgatetop_TopTorn_B [.snd, .snd, .snd, .snd, .snd, .fst, .snd]) (thenQ (fun env => getE env headgatetop_TopTorn_l4 fun (x : Int × Bs × Sl × Sl × Sl × Unit) => headgatetop_TopTorn_3 R x.1 x.2.1 x.2.2.1 x.2.2.2.1 x.2.2.2.2.1) (topQ P [.tmp 4] .b R)) (mkE2 227 headgatetop_TopTorn_l15 headgatetop_TopTorn_l16 (all_5, base_6, told_7, sizes_8, ends_9, i_10, ()) (l_0, cut_1, ())) w :=
  pc_loopE (l := headgatetop_TopTorn_l15) (l' := headgatetop_TopTorn_l16) (body := fun (c1 : (Bs × Int × Sl × Sl × Sl × Int × Unit) → (Sl × Int × Unit) → World → Prop) (s : Bs × Int × Sl × Sl × Sl × Int × Unit) => headgatetop_TopTorn_15 c1 R s.1 s.2.1 s.2.2.1 s.2.2.2.1 s.2.2.2.2.1 s.2.2.2.2.2.1 l_0 cut_1) (id := 0) (b := (Code.at headgatetop_TopTorn_B [.snd, .snd, .snd, .snd, .snd, .fst, .snd, .blk, .blk])) (by kernel_rfl) (fun c1 s w h => headgatetop_TopTorn_15_ok c1 R s.1 s.2.1 s.2.2.1 s.2.2.2.1 s.2.2.2.2.1 s.2.2.2.2.2.1 l_0 cut_1 w h) h
theorem headgatetop_TopTorn_13_ok (R : Bool → World → Prop) (l_0 : Sl) (cut_1 : Int) (all_5 : Bs) (base_6 : Int) (told_7 : Sl) (sizes_8 : Sl) (ends_9 : Sl) (w : World) (h : headgatetop_TopTorn_13 R l_0 cut_1 all_5 base_6 told_7 sizes_8 ends_9 w) : WPC P 227 [] (Code.at headgatetop_TopTorn_B [.snd, .snd, .snd, .snd, .snd, .fst]) (thenQ (fun env => getE env headgatetop_TopTorn_l4 fun (x : Int × Bs × Sl × Sl × Sl × Unit) => headgatetop_TopTorn_3 R x.1 x.2.1 x.2.2.1 x.2.2.2.1 x.2.2.2.2.1) (topQ P [.tmp 4] .b R)) (mkE 227 headgatetop_TopTorn_l14 (l_0, cut_1, all_5, base_6, told_7, sizes_8, ends_9, ())) w :=
  pc_cut2 (T := headgatetop_TopTorn_13 R l_0 cut_1 all_5 base_6 told_7 sizes_8 ends_9 w) (l := headgatetop_TopTorn_l15) (l' := headgatetop_TopTorn_l16) (F := fun (x : Bs × Int × Sl × Sl × Sl × Int × Unit) (y : Sl × Int × Unit) => headgatetop_TopTorn_14 R x.1 x.2.1 x.2.2.1 x.2.2.2.1 x.2.2.2.2.1 x.2.2.2.2.2.1 y.1 y.2.1) hmix 1 (mkE_len ..) (by kernel_rfl) (fun x y w h => headgatetop_TopTorn_14_ok R x.1 x.2.1 x.2.2.1 x.2.2.2.1 x.2.2.2.2.1 x.2.2.2.2.2.1 y.1 y.2.1 w h) (by kernel_rfl) h
theorem headgatetop_TopTorn_2_ok (R : Bool → World → Prop) (l_0 : Sl) (cut_1 : Int) (all_5 : Bs) (base_6 : Int) (told_7 : Sl) (sizes_8 : Sl) (ends_9 : Sl) (w : World) (h : headgatetop_TopTorn_2 R l_0 cut_1 all_5 base_6 told_7 sizes_8 ends_9 w) : WPC P 227 [] (Code.at headgatetop_TopTorn_B [.snd, .snd, .snd, .snd, .snd]) (topQ P [.tmp 4] .b R) (mkE 227 headgatetop_TopTorn_l3 (l_0, cut_1, all_5, base_6, told_7, sizes_8, ends_9, ())) w :=
  pc_seq (l := headgatetop_TopTorn_l4) (F := fun (x : Int × Bs × Sl × Sl × Sl × Unit) => headgatetop_TopTorn_3 R x.1 x.2.1 x.2.2.1 x.2.2.2.1 x.2.2.2.2.1) (a := (Code.at headgatetop_TopTorn_B [.snd, .snd, .snd, .snd, .snd, .fst])) (b := (Code.at headgatetop_TopTorn_B [.snd, .snd, .snd, .snd, .snd, .snd])) (by kernel_rfl) (pc_cut (T := (headgatetop_TopTorn_13 R l_0 cut_1 all_5 base_6 told_7 sizes_8 ends_9) w) (l := headgatetop_TopTorn_l14) (F := fun (x : Sl × Int × Bs × Int × Sl × Sl × Sl × Unit) => headgatetop_TopTorn_13 R x.1 x.2.1 x.2.2.1 x.2.2.2.1 x.2.2.2.2.1 x.2.2.2.2.2.1 x.2.2.2.2.2.2.1) (c := (Code.at headgatetop_TopTorn_B [.snd, .snd, .snd, .snd, .snd, .fst])) hmix 0 (mkE_len ..) (by kernel_rfl) (fun x w h => headgatetop_TopTorn_13_ok R x.1 x.2.1 x.2.2.1 x.2.2.2.1 x.2.2.2.2.1 x.2.2.2.2.2.1 x.2.2.2.2.2.2.1 w h) (by kernel_rfl) h) (fun x w h => headgatetop_TopTorn_3_ok R x.1 x.2.1 x.2.2.1 x.2.2.2.1 x.2.2.2.2.1 w h)
theorem headgatetop_TopTorn_1_ok (R : Bool → World → Prop) (l_0 : Sl) (cut_1 : Int) (w : World) (h : headgatetop_TopTorn_1 R l_0 cut_1 w) : WPC P 227 [] (Code.at headgatetop_TopTorn_B [.snd, .snd]) (topQ P [.tmp 4] .b R) (mkE 227 headgatetop_TopTorn_l2 (l_0, cut_1, ())) w :=
  pc_cut (T := headgatetop_TopTorn_1 R l_0 cut_1 w) (l := headgatetop_TopTorn_l3) (F := fun (x : Sl × Int × Bs × Int × Sl × Sl × Sl × Unit) => headgatetop_TopTorn_2 R x.1 x.2.1 x.2.2.1 x.2.2.2.1 x.2.2.2.2.1 x.2.2.2.2.2.1 x.2.2.2.2.2.2.1) hmix 3 (mkE_len ..) (by kernel_rfl) (fun x w h => headgatetop_TopTorn_2_ok R x.1 x.2.1 x.2.2.1 x.2.2.2.1 x.2.2.2.2.1 x.2.2.2.2.2.1 x.2.2.2.2.2.2.1 w h) (by kernel_rfl) h
theorem headgatetop_TopTorn_0_ok (R : Bool → World → Prop) (l_0 : Sl) (cut_1 : Int) (w : World) (h : headgatetop_TopTorn_0 R l_0 cut_1 w) : WPC P 227 [] (Code.at headgatetop_TopTorn_B []) (topQ P [.tmp 4] .b R) (mkE 227 headgatetop_TopTorn_l1 (l_0, cut_1, ())) w :=
  pc_cut (T := headgatetop_TopTorn_0 R l_0 cut_1 w) (l := headgatetop_TopTorn_l2) (F := fun (x : Sl × Int × Unit) => headgatetop_TopTorn_1 R x.1 x.2.1) hmix 2 (mkE_len ..) (by kernel_rfl) (fun x w h => headgatetop_TopTorn_1_ok R x.1 x.2.1 w h) (by kernel_rfl) h
theorem headgatetop_TopTorn_call (R : Bool → World → Prop) (l_0 : Sl) (cut_1 : Int) (w : World) (h : headgatetop_TopTorn_0 R l_0 cut_1 w) : mcall P n_headgatetop_TopTorn [(Sl.v l_0), (.int .i64 cut_1)] .b R w :=
  pc_top (T := (headgatetop_TopTorn_0 R l_0 cut_1) w) (l := headgatetop_TopTorn_l1) (F := fun (x : Sl × Int × Unit) => headgatetop_TopTorn_0 R x.1 x.2.1) (n := 227) (c := headgatetop_TopTorn_B) Tryz.func3 rfl (by kernel_rfl) (by kernel_rfl) (by kernel_rfl) (fun x w h => headgatetop_TopTorn_0_ok R x.1 x.2.1 w h) (by kernel_rfl) h
/- headgate headgateref06.May -/
noncomputable abbrev headgateref06_May_B : Code := (Tryz.f4.body).getD .skip
abbrev headgateref06_May_l1 : Slots := [(0, k_api_Batch)]
abbrev headgateref06_May_l2 : Slots := [(1, .ad)]
abbrev headgateref06_May_l3 : Slots := [(1, .ad)]
abbrev headgateref06_May_l4 : Slots := [(1, .ad), (4, .b)]
abbrev headgateref06_May_l5 : Slots := [(1, .ad), (4, .b), (5, .b)]
def headgateref06_May_4 (R : Bool → World → Prop) (b_1 : Addr) (some_4 : Bool) (none_5 : Bool) : World → Prop :=
 ld P t_int b_1 I fun (x15 : Int) =>
 mif (x15 == 1)
 (ld P t_sl_api_Record (ad b_1 4) .sl fun (x16 : Sl) =>
 mif (decide ((x16.len : Int) > 0))
 (mif some_4
 (R true)
 (R none_5))
 (R false))
 (ld P t_int b_1 I fun (x17 : Int) =>
 mif (x17 == 2)
 (ld P t_sl_api_Record (ad b_1 4) .sl fun (x18 : Sl) =>
 mif (decide ((x18.len : Int) > 0))
 (R some_4)
 (R false))
 (ld P t_int b_1 I fun (x19 : Int) =>
 mif (x19 == 3)
 (ld P t_sl_api_Record (ad b_1 4) .sl fun (x20 : Sl) =>
 mif ((x20.len : Int) == 0)
 (mif some_4
 (ld P t_int (ad b_1 3) I fun (x21 : Int) =>
 R (x21 == 0))
 (R false))
 (R false))
 (ld P t_int b_1 I fun (x22 : Int) =>
 mif (x22 == 4)
 (ld P t_sl_api_Record (ad b_1 4) .sl fun (x23 : Sl) =>
 mif ((x23.len : Int) == 0)
 (mif some_4
 (ld P t_int (ad b_1 3) I fun (x24 : Int) =>
 R (x24 == 0))
 (R false))
 (R false))
 (R false))))
def headgateref06_May_3 (R : Bool → World → Prop) (b_1 : Addr) (some_4 : Bool) : World → Prop :=
 ld P t_int (ad b_1 1) I fun (x12 : Int) =>
 mif (x12 == 0)
 (ld P t_int (ad b_1 2) I fun (x13 : Int) =>
 mif (x13 == 0)
 (ld P t_int (ad b_1 3) I fun (x14 : Int) =>
 headgateref06_May_4 R b_1 some_4 (x14 == 0))
 (headgateref06_May_4 R b_1 some_4 false))
 (headgateref06_May_4 R b_1 some_4 false)
def headgateref06_May_2 (R : Bool → World → Prop) (b_1 : Addr) : World → Prop :=
 ld P t_int (ad b_1 1) I fun (x10 : Int) =>
 mif (decide (x10 > 0))
 (ld P t_int (ad b_1 2) I fun (x11 : Int) =>
 headgateref06_May_3 R b_1 (decide (x11 > 0)))
 (headgateref06_May_3 R b_1 false)
abbrev headgateref06_May_l6 : Slots := [(1, .ad)]
abbrev headgateref06_May_l7 : Slots := [(3, I)]
abbrev headgateref06_May_l8 : Slots := [(1, .ad)]
def headgateref06_May_7 (c1 : (Int × Unit) → (Addr × Unit) → World → Prop) (R : Bool → World → Prop) (i_3 : Int) (b_1 : Addr) : World → Prop :=
 ld P t_sl_api_Record (ad b_1 4) .sl fun (x25 : Sl) =>
 mif (decide (i_3 < (x25.len : Int)))
 (ld P t_sl_api_Record (ad b_1 4) .sl fun (x26 : Sl) =>
 ixa P t_sl_api_Record (Sl.v x26) i_3 fun (x27 : Addr) =>
 ld P t_api_Record x27 k_api_Record fun (x28 : T_api_Record) =>
 mcall P n_headgateref06_MayRecord [(KV k_api_Record x28)] .b fun (x29 : Bool) =>
 mif (!x29)
 (R false)
 (c1 (w64 (i_3 + 1), ()) (b_1, ())))
 (headgateref06_May_2 R b_1)
def headgateref06_May_6 (R : Bool → World → Prop) (i_3 : Int) (b_1 : Addr) : World → Prop :=
 W.Loop (b_1, ()) (fun (c1 : (Int × Unit) → (Addr × Unit) → World → Prop) (s : Int × Unit) => headgateref06_May_7 c1 R s.1 b_1) (i_3, ())
def headgateref06_May_5 (R : Bool → World → Prop) (b_1 : Addr) : World → Prop :=
 headgateref06_May_6 R 0 b_1
def headgateref06_May_1 (R : Bool → World → Prop) (b_1 : Addr) : World → Prop :=
 headgateref06_May_5 R b_1
def headgateref06_May_0 (R : Bool → World → Prop) (b_0 : T_api_Batch) : World → Prop :=
 bx P t_api_Batch k_api_Batch b_0 fun a1 =>
 ld P t_int (ad a1 1) I fun (x2 : Int) =>
 mcall P n_headgateref06_In [(.int .i64 x2)] .b fun (x3 : Bool) =>
 mif (!x3)
 (R false)
 (ld P t_int (ad a1 1) I fun (x4 : Int) =>
 mif (decide (x4 > 8))
 (R false)
 (ld P t_int (ad a1 2) I fun (x5 : Int) =>
 mcall P n_headgateref06_In [(.int .i64 x5)] .b fun (x6 : Bool) =>
 mif (!x6)
 (R false)
 (ld P t_int (ad a1 3) I fun (x7 : Int) =>
 mcall P n_headgateref06_In [(.int .i64 x7)] .b fun (x8 : Bool) =>
 mif (!x8)
 (R false)
 (ld P t_sl_api_Record (ad a1 4) .sl fun (x9 : Sl) =>
 mif (decide ((x9.len : Int) > 64))
 (R false)
 (headgateref06_May_1 R a1)))))
theorem headgateref06_May_4_ok (R : Bool → World → Prop) (b_1 : Addr) (some_4 : Bool) (none_5 : Bool) (w : World) (h : headgateref06_May_4 R b_1 some_4 none_5 w) : WPC P 113 [] (Code.at headgateref06_May_B [.snd, .snd, .snd, .snd, .snd]) (topQ P [.tmp 2] .b R) (mkE 113 headgateref06_May_l5 (b_1, some_4, none_5, ())) w :=
  pc_end (T := headgateref06_May_4 R b_1 some_4 none_5 w) hmix (by kernel_rfl) h
theorem headgateref06_May_3_ok (R : Bool → World → Prop) (b_1 : Addr) (some_4 : Bool) (w : World) (h : headgateref06_May_3 R b_1 some_4 w) : WPC P 113 [] (Code.at headgateref06_May_B [.snd, .snd, .snd, .snd]) (topQ P [.tmp 2] .b R) (mkE 113 headgateref06_May_l4 (b_1, some_4, ())) w :=
  pc_cut (T := headgateref06_May_3 R b_1 some_4 w) (l := headgateref06_May_l5) (F := fun (x : Addr × Bool × Bool × Unit) => headgateref06_May_4 R x.1 x.2.1 x.2.2.1) hmix 1 (mkE_len ..) (by kernel_rfl) (fun x w h => headgateref06_May_4_ok R x.1 x.2.1 x.2.2.1 w h) (by kernel_rfl) h
theorem headgateref06_May_2_ok (R : Bool → World → Prop) (b_1 : Addr) (w : World) (h : headgateref06_May_2 R b_1 w) : WPC P 113 [] (Code.at headgateref06_May_B [.snd, .snd, .snd]) (topQ P [.tmp 2] .b R) (mkE 113 headgateref06_May_l3 (b_1, ())) w :=
  pc_cut (T := headgateref06_May_2 R b_1 w) (l := headgateref06_May_l4) (F := fun (x : Addr × Bool × Unit) => headgateref06_May_3 R x.1 x.2.1) hmix 1 (mkE_len ..) (by kernel_rfl) (fun x w h => headgateref06_May_3_ok R x.1 x.2.1 w h) (by kernel_rfl) h
theorem headgateref06_May_7_ok (c1 : (Int × Unit) → (Addr × Unit) → World → Prop) (R : Bool → World → Prop) (i_3 : Int) (b_1 : Addr) (w : World) (h : headgateref06_May_7 c1 R i_3 b_1 w) : WPC P 113 [] (Code.at headgateref06_May_B [.snd, .snd, .fst, .snd, .blk, .blk]) (thenQ (fun env => getE env headgateref06_May_l7 fun (s : Int × Unit) => getE env headgateref06_May_l8 (c1 s)) (blockQ 0 ((thenQ (fun env => getE env headgateref06_May_l3 fun (x : Addr × Unit) => headgateref06_May_2 R x.1) (topQ P [.tmp 2] .b R)) .normal) (thenQ (fun env => getE env headgateref06_May_l3 fun (x : Addr × Unit) => headgateref06_May_2 R x.1) (topQ P [.tmp 2] .b R)))) (mkE2 113 headgateref06_May_l7 headgateref06_May_l8 (i_3, ()) (b_1, ())) w :=
  pc_end (T := headgateref06_May_7 c1 R i_3 b_1 w) hmix (by kernel_rfl) h
theorem headgateref06_May_6_ok (R : Bool → World → Prop) (i_3 : Int) (b_1 : Addr) (w : World) (h : headgateref06_May_6 R i_3 b_1 w) : WPC P 113 [] (Code.at headgateref06_May_B [.snd, .snd, .fst, .snd]) (thenQ (fun env => getE env headgateref06_May_l3 fun (x : Addr × Unit) => headgateref06_May_2 R x.1) (topQ P [.tmp 2] .b R)) (mkE2 113 headgateref06_May_l7 headgateref06_May_l8 (i_3, ()) (b_1, ())) w :=
  pc_loopE (l := headgateref06_May_l7) (l' := headgateref06_May_l8) (body := fun (c1 : (Int × Unit) → (Addr × Unit) → World → Prop) (s : Int × Unit) => headgateref06_May_7 c1 R s.1 b_1) (id := 0) (b := (Code.at headgateref06_May_B [.snd, .snd, .fst, .snd, .blk, .blk])) (by kernel_rfl) (fun c1 s w h => headgateref06_May_7_ok c1 R s.1 b_1 w h) h
theorem headgateref06_May_5_ok (R : Bool → World → Prop) (b_1 : Addr) (w : World) (h : headgateref06_May_5 R b_1 w) : WPC P 113 [] (Code.at headgateref06_May_B [.snd, .snd, .fst]) (thenQ (fun env => getE env headgateref06_May_l3 fun (x : Addr × Unit) => headgateref06_May_2 R x.1) (topQ P [.tmp 2] .b R)) (mkE 113 headgateref06_May_l6 (b_1, ())) w :=
  pc_cut2 (T := headgateref06_May_5 R b_1 w) (l := headgateref06_May_l7) (l' := headgateref06_May_l8) (F := fun (x : Int × Unit) (y : Addr × Unit) => headgateref06_May_6 R x.1 y.1) hmix 1 (mkE_len ..) (by kernel_rfl) (fun x y w h => headgateref06_May_6_ok R x.1 y.1 w h) (by kernel_rfl) h
theorem headgateref06_May_1_ok (R : Bool → World → Prop) (b_1 : Addr) (w : World) (h : headgateref06_May_1 R b_1 w) : WPC P 113 [] (Code.at headgateref06_May_B [.snd, .snd]) (topQ P [.tmp 2] .b R) (mkE 113 headgateref06_May_l2 (b_1, ())) w :=
  pc_seq (l := headgateref06_May_l3) (F := fun (x : Addr × Unit) => headgateref06_May_2 R x.1) (a := (Code.at headgateref06_May_B [.snd, .snd, .fst])) (b := (Code.at headgateref06_May_B [.snd, .snd, .snd])) (by kernel_rfl) (pc_cut (T := (headgateref06_May_5 R b_1) w) (l := headgateref06_May_l6) (F := fun (x : Addr × Unit) => headgateref06_May_5 R x.1) (c := (Code.at headgateref06_May_B [.snd, .snd, .fst])) hmix 0 (mkE_len ..) (by kernel_rfl) (fun x w h => headgateref06_May_5_ok R x.1 w h) (by kernel_rfl) h) (fun x w h => headgateref06_May_2_ok R x.1 w h)
theorem headgateref06_May_0_ok (R : Bool → World → Prop) (b_0 : T_api_Batch) (w : World) (h : headgateref06_May_0 R b_0 w) : WPC P 113 [] (Code.at headgateref06_May_B []) (topQ P [.tmp 2] .b R) (mkE 113 headgateref06_May_l1 (b_0, ())) w :=
  pc_cut (T := headgateref06_May_0 R b_0 w) (l := headgateref06_May_l2) (F := fun (x : Addr × Unit) => headgateref06_May_1 R x.1) hmix 2 (mkE_len ..) (by kernel_rfl) (fun x w h => headgateref06_May_1_ok R x.1 w h) (by kernel_rfl) h
theorem headgateref06_May_call (R : Bool → World → Prop) (b_0 : T_api_Batch) (w : World) (h : headgateref06_May_0 R b_0 w) : mcall P n_headgateref06_May [(KV k_api_Batch b_0)] .b R w :=
  pc_top (T := (headgateref06_May_0 R b_0) w) (l := headgateref06_May_l1) (F := fun (x : T_api_Batch × Unit) => headgateref06_May_0 R x.1) (n := 113) (c := headgateref06_May_B) Tryz.func4 rfl (by kernel_rfl) (by kernel_rfl) (by kernel_rfl) (fun x w h => headgateref06_May_0_ok R x.1 w h) (by kernel_rfl) h
/- headgate batch.Encode -/
noncomputable abbrev batch_Encode_B : Code := (Tryz.f5.body).getD .skip
abbrev batch_Encode_l1 : Slots := [(0, k_api_Batch)]
abbrev batch_Encode_l2 : Slots := [(1, .ad), (5, .ad)]
abbrev batch_Encode_l3 : Slots := [(5, .ad)]
def batch_Encode_2 (R : (Bs × Int × Unit) → World → Prop) (s_5 : Addr) : World → Prop :=
 mcall P n_strings_Builder_String [(.pointer (some s_5))] .s fun (x13 : Bs) =>
 R (x13, 0, ())
abbrev batch_Encode_l4 : Slots := [(1, .ad), (5, .ad)]
abbrev batch_Encode_l5 : Slots := [(30, I)]
abbrev batch_Encode_l6 : Slots := [(5, .ad), (28, .sl), (29, I)]
def batch_Encode_5 (c1 : (Int × Unit) → (Addr × Sl × Int × Unit) → World → Prop) (R : (Bs × Int × Unit) → World → Prop) (v30 : Int) (s_5 : Addr) (v28 : Sl) (v29 : Int) : World → Prop :=
 mif (decide (v30 < v29))
 (ixa P t_sl_api_Record (Sl.v v28) v30 fun (x15 : Addr) =>
 ld P t_api_Record x15 k_api_Record fun (x16 : T_api_Record) =>
 alo P t_api_Record fun a17 =>
 sto P t_api_Record a17 k_api_Record x16 <|
 ld P t_api_Record a17 k_api_Record fun (x18 : T_api_Record) =>
 mcall P n_batch_PutRecord [(KV k_api_Record x18)] .s fun (x19 : Bs) =>
 mcall P n_strings_Builder_WriteString [(.pointer (some s_5)), (.string ⟨x19.toArray⟩)] (.tup [I, .v]) fun (x20 : Int × Value × Unit) =>
 c1 (w64 (v30 + 1), ()) (s_5, v28, v29, ()))
 (batch_Encode_2 R s_5)
def batch_Encode_4 (R : (Bs × Int × Unit) → World → Prop) (v30 : Int) (s_5 : Addr) (v28 : Sl) (v29 : Int) : World → Prop :=
 W.Loop (s_5, v28, v29, ()) (fun (c1 : (Int × Unit) → (Addr × Sl × Int × Unit) → World → Prop) (s : Int × Unit) => batch_Encode_5 c1 R s.1 s_5 v28 v29) (v30, ())
def batch_Encode_3 (R : (Bs × Int × Unit) → World → Prop) (b_1 : Addr) (s_5 : Addr) : World → Prop :=
 ld P t_sl_api_Record (ad b_1 4) .sl fun (x14 : Sl) =>
 batch_Encode_4 R 0 s_5 x14 (x14.len : Int)
def batch_Encode_1 (R : (Bs × Int × Unit) → World → Prop) (b_1 : Addr) (s_5 : Addr) : World → Prop :=
 batch_Encode_3 R b_1 s_5
def batch_Encode_0 (R : (Bs × Int × Unit) → World → Prop) (b_0 : T_api_Batch) : World → Prop :=
 bx P t_api_Batch k_api_Batch b_0 fun a1 =>
 ld P t_api_Batch a1 k_api_Batch fun (x2 : T_api_Batch) =>
 mcall P n_batch_Check [(KV k_api_Batch x2)] I fun (x3 : Int) =>
 mif (x3 != 0)
 (R ([], x3, ()))
 (alo P t_strings_Builder fun a4 =>
 ld P t_int a1 I fun (x5 : Int) =>
 ld P t_int (ad a1 1) I fun (x6 : Int) =>
 ld P t_int (ad a1 2) I fun (x7 : Int) =>
 ld P t_int (ad a1 3) I fun (x8 : Int) =>
 ld P t_sl_api_Record (ad a1 4) .sl fun (x9 : Sl) =>
 bsl P t_sl_int I [x5, x6, x7, x8, (x9.len : Int)] fun x10 =>
 mcall P n_varint_PutAll [(Sl.v x10)] .s fun (x11 : Bs) =>
 mcall P n_strings_Builder_WriteString [(.pointer (some a4)), (.string ⟨x11.toArray⟩)] (.tup [I, .v]) fun (x12 : Int × Value × Unit) =>
 batch_Encode_1 R a1 a4)
theorem batch_Encode_2_ok (R : (Bs × Int × Unit) → World → Prop) (s_5 : Addr) (w : World) (h : batch_Encode_2 R s_5 w) : WPC P 39 [] (Code.at batch_Encode_B [.snd, .snd, .snd, .snd, .snd]) (topQ P [.tmp 2, .tmp 3] (.tup [.s, I]) R) (mkE 39 batch_Encode_l3 (s_5, ())) w :=
  pc_end (T := batch_Encode_2 R s_5 w) hmix (by kernel_rfl) h
theorem batch_Encode_5_ok (c1 : (Int × Unit) → (Addr × Sl × Int × Unit) → World → Prop) (R : (Bs × Int × Unit) → World → Prop) (v30 : Int) (s_5 : Addr) (v28 : Sl) (v29 : Int) (w : World) (h : batch_Encode_5 c1 R v30 s_5 v28 v29 w) : WPC P 39 [] (Code.at batch_Encode_B [.snd, .snd, .snd, .snd, .fst, .snd, .blk, .blk]) (thenQ (fun env => getE env batch_Encode_l5 fun (s : Int × Unit) => getE env batch_Encode_l6 (c1 s)) (blockQ 0 ((thenQ (fun env => getE env batch_Encode_l3 fun (x : Addr × Unit) => batch_Encode_2 R x.1) (topQ P [.tmp 2, .tmp 3] (.tup [.s, I]) R)) .normal) (thenQ (fun env => getE env batch_Encode_l3 fun (x : Addr × Unit) => batch_Encode_2 R x.1) (topQ P [.tmp 2, .tmp 3] (.tup [.s, I]) R)))) (mkE2 39 batch_Encode_l5 batch_Encode_l6 (v30, ()) (s_5, v28, v29, ())) w :=
  pc_end (T := batch_Encode_5 c1 R v30 s_5 v28 v29 w) hmix (by kernel_rfl) h
theorem batch_Encode_4_ok (R : (Bs × Int × Unit) → World → Prop) (v30 : Int) (s_5 : Addr) (v28 : Sl) (v29 : Int) (w : World) (h : batch_Encode_4 R v30 s_5 v28 v29 w) : WPC P 39 [] (Code.at batch_Encode_B [.snd, .snd, .snd, .snd, .fst, .snd]) (thenQ (fun env => getE env batch_Encode_l3 fun (x : Addr × Unit) => batch_Encode_2 R x.1) (topQ P [.tmp 2, .tmp 3] (.tup [.s, I]) R)) (mkE2 39 batch_Encode_l5 batch_Encode_l6 (v30, ()) (s_5, v28, v29, ())) w :=
  pc_loopE (l := batch_Encode_l5) (l' := batch_Encode_l6) (body := fun (c1 : (Int × Unit) → (Addr × Sl × Int × Unit) → World → Prop) (s : Int × Unit) => batch_Encode_5 c1 R s.1 s_5 v28 v29) (id := 0) (b := (Code.at batch_Encode_B [.snd, .snd, .snd, .snd, .fst, .snd, .blk, .blk])) (by kernel_rfl) (fun c1 s w h => batch_Encode_5_ok c1 R s.1 s_5 v28 v29 w h) h
theorem batch_Encode_3_ok (R : (Bs × Int × Unit) → World → Prop) (b_1 : Addr) (s_5 : Addr) (w : World) (h : batch_Encode_3 R b_1 s_5 w) : WPC P 39 [] (Code.at batch_Encode_B [.snd, .snd, .snd, .snd, .fst]) (thenQ (fun env => getE env batch_Encode_l3 fun (x : Addr × Unit) => batch_Encode_2 R x.1) (topQ P [.tmp 2, .tmp 3] (.tup [.s, I]) R)) (mkE 39 batch_Encode_l4 (b_1, s_5, ())) w :=
  pc_cut2 (T := batch_Encode_3 R b_1 s_5 w) (l := batch_Encode_l5) (l' := batch_Encode_l6) (F := fun (x : Int × Unit) (y : Addr × Sl × Int × Unit) => batch_Encode_4 R x.1 y.1 y.2.1 y.2.2.1) hmix 1 (mkE_len ..) (by kernel_rfl) (fun x y w h => batch_Encode_4_ok R x.1 y.1 y.2.1 y.2.2.1 w h) (by kernel_rfl) h
theorem batch_Encode_1_ok (R : (Bs × Int × Unit) → World → Prop) (b_1 : Addr) (s_5 : Addr) (w : World) (h : batch_Encode_1 R b_1 s_5 w) : WPC P 39 [] (Code.at batch_Encode_B [.snd, .snd, .snd, .snd]) (topQ P [.tmp 2, .tmp 3] (.tup [.s, I]) R) (mkE 39 batch_Encode_l2 (b_1, s_5, ())) w :=
  pc_seq (l := batch_Encode_l3) (F := fun (x : Addr × Unit) => batch_Encode_2 R x.1) (a := (Code.at batch_Encode_B [.snd, .snd, .snd, .snd, .fst])) (b := (Code.at batch_Encode_B [.snd, .snd, .snd, .snd, .snd])) (by kernel_rfl) (pc_cut (T := (batch_Encode_3 R b_1 s_5) w) (l := batch_Encode_l4) (F := fun (x : Addr × Addr × Unit) => batch_Encode_3 R x.1 x.2.1) (c := (Code.at batch_Encode_B [.snd, .snd, .snd, .snd, .fst])) hmix 0 (mkE_len ..) (by kernel_rfl) (fun x w h => batch_Encode_3_ok R x.1 x.2.1 w h) (by kernel_rfl) h) (fun x w h => batch_Encode_2_ok R x.1 w h)
theorem batch_Encode_0_ok (R : (Bs × Int × Unit) → World → Prop) (b_0 : T_api_Batch) (w : World) (h : batch_Encode_0 R b_0 w) : WPC P 39 [] (Code.at batch_Encode_B []) (topQ P [.tmp 2, .tmp 3] (.tup [.s, I]) R) (mkE 39 batch_Encode_l1 (b_0, ())) w :=
  pc_cut (T := batch_Encode_0 R b_0 w) (l := batch_Encode_l2) (F := fun (x : Addr × Addr × Unit) => batch_Encode_1 R x.1 x.2.1) hmix 4 (mkE_len ..) (by kernel_rfl) (fun x w h => batch_Encode_1_ok R x.1 x.2.1 w h) (by kernel_rfl) h
theorem batch_Encode_call (R : (Bs × Int × Unit) → World → Prop) (b_0 : T_api_Batch) (w : World) (h : batch_Encode_0 R b_0 w) : mcall P n_batch_Encode [(KV k_api_Batch b_0)] (.tup [.s, I]) R w :=
  pc_top (T := (batch_Encode_0 R b_0) w) (l := batch_Encode_l1) (F := fun (x : T_api_Batch × Unit) => batch_Encode_0 R x.1) (n := 39) (c := batch_Encode_B) Tryz.func5 rfl (by kernel_rfl) (by kernel_rfl) (by kernel_rfl) (fun x w h => batch_Encode_0_ok R x.1 w h) (by kernel_rfl) h
/- headgate lz.Pack -/
noncomputable abbrev lz_Pack_B : Code := (Tryz.f6.body).getD .skip
abbrev lz_Pack_l1 : Slots := [(0, .s)]
abbrev lz_Pack_l2 : Slots := [(4, .s)]
def lz_Pack_1 (R : (Bs × Int × Unit) → World → Prop) (short_4 : Bs) : World → Prop :=
 R (short_4, 0, ())
def lz_Pack_0 (R : (Bs × Int × Unit) → World → Prop) (s_0 : Bs) : World → Prop :=
 mif (decide ((s_0.length : Int) > 1048576))
 (R ([], 1, ()))
 (mcall P n_lz_again [(.string ⟨s_0.toArray⟩)] .s fun (x1 : Bs) =>
 mcall P n_lz_parts [(.string ⟨s_0.toArray⟩)] .s fun (x2 : Bs) =>
 mif (decide ((x2.length : Int) < (x1.length : Int)))
 (lz_Pack_1 R x2)
 (lz_Pack_1 R x1))
theorem lz_Pack_1_ok (R : (Bs × Int × Unit) → World → Prop) (short_4 : Bs) (w : World) (h : lz_Pack_1 R short_4 w) : WPC P 20 [] (Code.at lz_Pack_B [.snd, .snd, .snd, .snd]) (topQ P [.tmp 2, .tmp 3] (.tup [.s, I]) R) (mkE 20 lz_Pack_l2 (short_4, ())) w :=
  pc_end (T := lz_Pack_1 R short_4 w) hmix (by kernel_rfl) h
theorem lz_Pack_0_ok (R : (Bs × Int × Unit) → World → Prop) (s_0 : Bs) (w : World) (h : lz_Pack_0 R s_0 w) : WPC P 20 [] (Code.at lz_Pack_B []) (topQ P [.tmp 2, .tmp 3] (.tup [.s, I]) R) (mkE 20 lz_Pack_l1 (s_0, ())) w :=
  pc_cut (T := lz_Pack_0 R s_0 w) (l := lz_Pack_l2) (F := fun (x : Bs × Unit) => lz_Pack_1 R x.1) hmix 4 (mkE_len ..) (by kernel_rfl) (fun x w h => lz_Pack_1_ok R x.1 w h) (by kernel_rfl) h
theorem lz_Pack_call (R : (Bs × Int × Unit) → World → Prop) (s_0 : Bs) (w : World) (h : lz_Pack_0 R s_0 w) : mcall P n_lz_Pack [(.string ⟨s_0.toArray⟩)] (.tup [.s, I]) R w :=
  pc_top (T := (lz_Pack_0 R s_0) w) (l := lz_Pack_l1) (F := fun (x : Bs × Unit) => lz_Pack_0 R x.1) (n := 20) (c := lz_Pack_B) Tryz.func6 rfl (by kernel_rfl) (by kernel_rfl) (by kernel_rfl) (fun x w h => lz_Pack_0_ok R x.1 w h) (by kernel_rfl) h
/- headgate batch.Len -/
noncomputable abbrev batch_Len_B : Code := (Tryz.f7.body).getD .skip
abbrev batch_Len_l1 : Slots := [(0, k_api_Batch)]
def batch_Len_0 (R : Int → World → Prop) (b_0 : T_api_Batch) : World → Prop :=
 bx P t_api_Batch k_api_Batch b_0 fun a1 =>
 ld P t_sl_api_Record (ad a1 4) .sl fun (x2 : Sl) =>
 R (mx 1 (x2.len : Int))
theorem batch_Len_0_ok (R : Int → World → Prop) (b_0 : T_api_Batch) (w : World) (h : batch_Len_0 R b_0 w) : WPC P 7 [] (Code.at batch_Len_B []) (topQ P [.tmp 2] I R) (mkE 7 batch_Len_l1 (b_0, ())) w :=
  pc_end (T := batch_Len_0 R b_0 w) hmix (by kernel_rfl) h
theorem batch_Len_call (R : Int → World → Prop) (b_0 : T_api_Batch) (w : World) (h : batch_Len_0 R b_0 w) : mcall P n_batch_Len [(KV k_api_Batch b_0)] I R w :=
  pc_top (T := (batch_Len_0 R b_0) w) (l := batch_Len_l1) (F := fun (x : T_api_Batch × Unit) => batch_Len_0 R x.1) (n := 7) (c := batch_Len_B) Tryz.func7 rfl (by kernel_rfl) (by kernel_rfl) (by kernel_rfl) (fun x w h => batch_Len_0_ok R x.1 w h) (by kernel_rfl) h
/- headgate frame.Lay -/
noncomputable abbrev frame_Lay_B : Code := (Tryz.f8.body).getD .skip
abbrev frame_Lay_l1 : Slots := [(0, k_api_Record)]
def frame_Lay_0 (R : (Bs × Int × Unit) → World → Prop) (e_0 : T_api_Record) : World → Prop :=
 bx P t_api_Entry k_api_Record e_0 fun a1 =>
 ld P t_api_Entry a1 k_api_Record fun (x2 : T_api_Record) =>
 mcall P n_frame_Check [(KV k_api_Record x2)] I fun (x3 : Int) =>
 mif (x3 != 0)
 (R ([], x3, ()))
 (mdraw <|
 ld P t_int a1 I fun (x4 : Int) =>
 ld P t_int (ad a1 1) I fun (x5 : Int) =>
 ld P t_string (ad a1 2) .s fun (x6 : Bs) =>
 bsl P t_sl_int I [x4, x5] fun x7 =>
 mst P (Instr.loadAt t_string (.pointer (some (ad a1 2)))) (.string ⟨x6.toArray⟩) <|
 mcall P n_varint_PutAll [(Sl.v x7)] .s fun (x8 : Bs) =>
 mst P (Instr.loadAt t_string (.pointer (some (ad a1 2)))) (.string ⟨x6.toArray⟩) <|
 mcat x8 x6 fun s9 =>
 mcall P n_varint_PutText [(.string ⟨s9.toArray⟩)] .s fun (x10 : Bs) =>
 mcall P n_crc_Seal [(.string ⟨x10.toArray⟩)] .s fun (x11 : Bs) =>
 R (x11, 0, ()))
theorem frame_Lay_0_ok (R : (Bs × Int × Unit) → World → Prop) (e_0 : T_api_Record) (w : World) (h : frame_Lay_0 R e_0 w) : WPC P 21 [] (Code.at frame_Lay_B []) (topQ P [.tmp 2, .tmp 3] (.tup [.s, I]) R) (mkE 21 frame_Lay_l1 (e_0, ())) w :=
  pc_end (T := frame_Lay_0 R e_0 w) hmix (by kernel_rfl) h
theorem frame_Lay_call (R : (Bs × Int × Unit) → World → Prop) (e_0 : T_api_Record) (w : World) (h : frame_Lay_0 R e_0 w) : mcall P n_frame_Lay [(KV k_api_Record e_0)] (.tup [.s, I]) R w :=
  pc_top (T := (frame_Lay_0 R e_0) w) (l := frame_Lay_l1) (F := fun (x : T_api_Record × Unit) => frame_Lay_0 R x.1) (n := 21) (c := frame_Lay_B) Tryz.func8 rfl (by kernel_rfl) (by kernel_rfl) (by kernel_rfl) (fun x w h => frame_Lay_0_ok R x.1 w h) (by kernel_rfl) h
end Go.Proofs.YtegjokkkdkaphaaGreatDoor
