/- Short texts of functions of the program, each with the proof that a call comes to it. No condition. -/
import Derived.Test.YtegjokkkdkaphaaGreatDoorNames
set_option linter.unusedVariables false
set_option linter.unusedSimpArgs false
namespace Go.Proofs.YtegjokkkdkaphaaGreatDoor
open Go Go.W
set_option maxRecDepth 100000
/- headgate lz.Unpack -/
noncomputable abbrev lz_Unpack_B : Code := (Tryz.f10.body).getD .skip
abbrev lz_Unpack_l1 : Slots := [(0, .s), (1, I)]
abbrev lz_Unpack_l2 : Slots := [(0, .s), (6, .sl)]
abbrev lz_Unpack_l3 : Slots := [(1, I)]
abbrev lz_Unpack_l4 : Slots := [(6, .sl)]
def lz_Unpack_2 (R : (Bs × Int × Unit) → World → Prop) (b_6 : Sl) : World → Prop :=
 mrd P (convert t_sl_uint8 t_string (.slice b_6.a b_6.len b_6.cap)) .s fun (x1 : Bs) =>
 R (x1, 0, ())
abbrev lz_Unpack_l5 : Slots := [(0, .s), (1, I), (6, .sl)]
abbrev lz_Unpack_l6 : Slots := [(0, .s), (1, I), (6, .sl)]
abbrev lz_Unpack_l7 : Slots := [(6, .sl), (95, I)]
abbrev lz_Unpack_l8 : Slots := [(0, .s), (1, I), (10, I), (94, I)]
def lz_Unpack_7 (c2 : (Sl × Int × Unit) → (Bs × Int × Int × Int × Unit) → World → Prop) (c1 : (Bs × Sl × Unit) → (Int × Unit) → World → Prop) (R : (Bs × Int × Unit) → World → Prop) (b_6 : Sl) (v95 : Int) (s_0 : Bs) (most_1 : Int) (back_10 : Int) (v94 : Int) : World → Prop :=
 mif (decide (v95 < v94))
 (ixa P t_sl_uint8 (Sl.v b_6) (w64 ((b_6.len : Int) - back_10)) fun (x7 : Addr) =>
 ld P t_uint8 x7 (.i .u8) fun (x8 : Int) =>
 bsl P t_sl_uint8 (.i .u8) [x8] fun x9 =>
 app P #[t_sl_uint8, t_sl_uint8] t_sl_uint8 (Sl.v b_6) (Sl.v x9) fun (x10 : Sl) =>
 c2 (x10, w64 (v95 + 1), ()) (s_0, most_1, back_10, v94, ()))
 (c1 (s_0, b_6, ()) (most_1, ()))
def lz_Unpack_6 (c1 : (Bs × Sl × Unit) → (Int × Unit) → World → Prop) (R : (Bs × Int × Unit) → World → Prop) (b_6 : Sl) (v95 : Int) (s_0 : Bs) (most_1 : Int) (back_10 : Int) (v94 : Int) : World → Prop :=
 W.Loop (s_0, most_1, back_10, v94, ()) (fun (c2 : (Sl × Int × Unit) → (Bs × Int × Int × Int × Unit) → World → Prop) (s : Sl × Int × Unit) => lz_Unpack_7 c2 c1 R s.1 s.2.1 s_0 most_1 back_10 v94) (b_6, v95, ())
def lz_Unpack_5 (c1 : (Bs × Sl × Unit) → (Int × Unit) → World → Prop) (R : (Bs × Int × Unit) → World → Prop) (s_0 : Bs) (most_1 : Int) (b_6 : Sl) : World → Prop :=
 mcall P n_varint_Take [(.string ⟨s_0.toArray⟩)] (.tup [I, .s, I]) fun (x2 : Int × Bs × Int × Unit) =>
 mif (x2.2.2.1 != 0)
 (R ([], 2, ()))
 (mif (decide (x2.1 < 1))
 (R ([], 2, ()))
 (mif (decide ((w64 (x2.1.tdiv 2)) > (w64 (most_1 - (b_6.len : Int)))))
 (R ([], 2, ()))
 (mif ((x2.1.tmod 2) == 0)
 (mif (decide ((w64 (x2.1.tdiv 2)) > (x2.2.1.length : Int)))
 (R ([], 2, ()))
 (sls P t_string x2.2.1 none (some (w64 (x2.1.tdiv 2))) fun (x3 : Bs) =>
 app P #[t_sl_uint8, t_string] t_sl_uint8 (Sl.v b_6) (.string ⟨x3.toArray⟩) fun (x4 : Sl) =>
 sls P t_string x2.2.1 (some (w64 (x2.1.tdiv 2))) none fun (x5 : Bs) =>
 c1 (x5, x4, ()) (most_1, ())))
 (mcall P n_varint_Take [(.string ⟨x2.2.1.toArray⟩)] (.tup [I, .s, I]) fun (x6 : Int × Bs × Int × Unit) =>
 mif (x6.2.2.1 != 0)
 (R ([], 2, ()))
 (mif (decide (x6.1 < 1))
 (R ([], 2, ()))
 (mif (decide (x6.1 > 4096))
 (R ([], 2, ()))
 (mif (decide (x6.1 > (b_6.len : Int)))
 (R ([], 2, ()))
 (mif (decide ((w64 (x2.1.tdiv 2)) > (w64 ((w64 (most_1 - (b_6.len : Int))) - 4))))
 (R ([], 2, ()))
 (lz_Unpack_6 c1 R b_6 0 x6.2.1 most_1 x6.1 (w64 ((w64 (x2.1.tdiv 2)) + 4)))))))))))
def lz_Unpack_4 (c1 : (Bs × Sl × Unit) → (Int × Unit) → World → Prop) (R : (Bs × Int × Unit) → World → Prop) (s_0 : Bs) (most_1 : Int) (b_6 : Sl) : World → Prop :=
 lz_Unpack_5 c1 R s_0 most_1 b_6
def lz_Unpack_3 (c1 : (Bs × Sl × Unit) → (Int × Unit) → World → Prop) (R : (Bs × Int × Unit) → World → Prop) (s_0 : Bs) (b_6 : Sl) (most_1 : Int) : World → Prop :=
 mif (!(s_0 == []))
 (lz_Unpack_4 c1 R s_0 most_1 b_6)
 (lz_Unpack_2 R b_6)
def lz_Unpack_1 (R : (Bs × Int × Unit) → World → Prop) (s_0 : Bs) (b_6 : Sl) (most_1 : Int) : World → Prop :=
 W.Loop (most_1, ()) (fun (c1 : (Bs × Sl × Unit) → (Int × Unit) → World → Prop) (s : Bs × Sl × Unit) => lz_Unpack_3 c1 R s.1 s.2.1 most_1) (s_0, b_6, ())
def lz_Unpack_0 (R : (Bs × Int × Unit) → World → Prop) (s_0 : Bs) (most_1 : Int) : World → Prop :=
 mif (decide (most_1 < 0))
 (R ([], 1, ()))
 (mif (decide (most_1 > 1048576))
 (R ([], 1, ()))
 (lz_Unpack_1 R s_0 ⟨none, 0, 0⟩ most_1))
theorem lz_Unpack_2_ok (R : (Bs × Int × Unit) → World → Prop) (b_6 : Sl) (w : World) (h : lz_Unpack_2 R b_6 w) : WPC P 110 [] (Code.at lz_Unpack_B [.snd, .snd, .snd, .snd]) (topQ P [.tmp 4, .tmp 5] (.tup [.s, I]) R) (mkE 110 lz_Unpack_l4 (b_6, ())) w :=
  pc_end (T := lz_Unpack_2 R b_6 w) hmix (by kernel_rfl) h
theorem lz_Unpack_7_ok (c2 : (Sl × Int × Unit) → (Bs × Int × Int × Int × Unit) → World → Prop) (c1 : (Bs × Sl × Unit) → (Int × Unit) → World → Prop) (R : (Bs × Int × Unit) → World → Prop) (b_6 : Sl) (v95 : Int) (s_0 : Bs) (most_1 : Int) (back_10 : Int) (v94 : Int) (w : World) (h : lz_Unpack_7 c2 c1 R b_6 v95 s_0 most_1 back_10 v94 w) : WPC P 110 [] (Code.at lz_Unpack_B [.snd, .snd, .snd, .fst, .blk, .blk, .snd, .blk, .snd, .snd, .snd, .snd, .snd, .snd, .snd, .snd, .blk, .blk]) (thenQ (fun env => getE env lz_Unpack_l7 fun (s : Sl × Int × Unit) => getE env lz_Unpack_l8 (c2 s)) (blockQ 2 ((blockQ 1 ((thenQ (fun env => getE env lz_Unpack_l2 fun (s : Bs × Sl × Unit) => getE env lz_Unpack_l3 (c1 s)) (blockQ 0 (fun env => getE env lz_Unpack_l4 fun (x : Sl × Unit) => lz_Unpack_2 R x.1) (topQ P [.tmp 4, .tmp 5] (.tup [.s, I]) R))) .normal) (thenQ (fun env => getE env lz_Unpack_l2 fun (s : Bs × Sl × Unit) => getE env lz_Unpack_l3 (c1 s)) (blockQ 0 (fun env => getE env lz_Unpack_l4 fun (x : Sl × Unit) => lz_Unpack_2 R x.1) (topQ P [.tmp 4, .tmp 5] (.tup [.s, I]) R)))) .normal) (blockQ 1 ((thenQ (fun env => getE env lz_Unpack_l2 fun (s : Bs × Sl × Unit) => getE env lz_Unpack_l3 (c1 s)) (blockQ 0 (fun env => getE env lz_Unpack_l4 fun (x : Sl × Unit) => lz_Unpack_2 R x.1) (topQ P [.tmp 4, .tmp 5] (.tup [.s, I]) R))) .normal) (thenQ (fun env => getE env lz_Unpack_l2 fun (s : Bs × Sl × Unit) => getE env lz_Unpack_l3 (c1 s)) (blockQ 0 (fun env => getE env lz_Unpack_l4 fun (x : Sl × Unit) => lz_Unpack_2 R x.1) (topQ P [.tmp 4, .tmp 5] (.tup [.s, I]) R)))))) (mkE2 110 lz_Unpack_l7 lz_Unpack_l8 (b_6, v95, ()) (s_0, most_1, back_10, v94, ())) w :=
  pc_end (T := lz_Unpack_7 c2 c1 R b_6 v95 s_0 most_1 back_10 v94 w) hmix (by kernel_rfl) h
theorem lz_Unpack_6_ok (c1 : (Bs × Sl × Unit) → (Int × Unit) → World → Prop) (R : (Bs × Int × Unit) → World → Prop) (b_6 : Sl) (v95 : Int) (s_0 : Bs) (most_1 : Int) (back_10 : Int) (v94 : Int) (w : World) (h : lz_Unpack_6 c1 R b_6 v95 s_0 most_1 back_10 v94 w) : WPC P 110 [] (Code.at lz_Unpack_B [.snd, .snd, .snd, .fst, .blk, .blk, .snd, .blk, .snd, .snd, .snd, .snd, .snd, .snd, .snd, .snd]) (blockQ 1 ((thenQ (fun env => getE env lz_Unpack_l2 fun (s : Bs × Sl × Unit) => getE env lz_Unpack_l3 (c1 s)) (blockQ 0 (fun env => getE env lz_Unpack_l4 fun (x : Sl × Unit) => lz_Unpack_2 R x.1) (topQ P [.tmp 4, .tmp 5] (.tup [.s, I]) R))) .normal) (thenQ (fun env => getE env lz_Unpack_l2 fun (s : Bs × Sl × Unit) => getE env lz_Unpack_l3 (c1 s)) (blockQ 0 (fun env => getE env lz_Unpack_l4 fun (x : Sl × Unit) => lz_Unpack_2 R x.1) (topQ P [.tmp 4, .tmp 5] (.tup [.s, I]) R)))) (mkE2 110 lz_Unpack_l7 lz_Unpack_l8 (b_6, v95, ()) (s_0, most_1, back_10, v94, ())) w :=
  pc_loopE (l := lz_Unpack_l7) (l' := lz_Unpack_l8) (body := fun (c2 : (Sl × Int × Unit) → (Bs × Int × Int × Int × Unit) → World → Prop) (s : Sl × Int × Unit) => lz_Unpack_7 c2 c1 R s.1 s.2.1 s_0 most_1 back_10 v94) (id := 2) (b := (Code.at lz_Unpack_B [.snd, .snd, .snd, .fst, .blk, .blk, .snd, .blk, .snd, .snd, .snd, .snd, .snd, .snd, .snd, .snd, .blk, .blk])) (by kernel_rfl) (fun c2 s w h => lz_Unpack_7_ok c2 c1 R s.1 s.2.1 s_0 most_1 back_10 v94 w h) h
theorem lz_Unpack_5_ok (c1 : (Bs × Sl × Unit) → (Int × Unit) → World → Prop) (R : (Bs × Int × Unit) → World → Prop) (s_0 : Bs) (most_1 : Int) (b_6 : Sl) (w : World) (h : lz_Unpack_5 c1 R s_0 most_1 b_6 w) : WPC P 110 [] (Code.at lz_Unpack_B [.snd, .snd, .snd, .fst, .blk, .blk, .snd, .blk]) (blockQ 1 ((thenQ (fun env => getE env lz_Unpack_l2 fun (s : Bs × Sl × Unit) => getE env lz_Unpack_l3 (c1 s)) (blockQ 0 (fun env => getE env lz_Unpack_l4 fun (x : Sl × Unit) => lz_Unpack_2 R x.1) (topQ P [.tmp 4, .tmp 5] (.tup [.s, I]) R))) .normal) (thenQ (fun env => getE env lz_Unpack_l2 fun (s : Bs × Sl × Unit) => getE env lz_Unpack_l3 (c1 s)) (blockQ 0 (fun env => getE env lz_Unpack_l4 fun (x : Sl × Unit) => lz_Unpack_2 R x.1) (topQ P [.tmp 4, .tmp 5] (.tup [.s, I]) R)))) (mkE 110 lz_Unpack_l6 (s_0, most_1, b_6, ())) w :=
  pc_cut2 (T := lz_Unpack_5 c1 R s_0 most_1 b_6 w) (l := lz_Unpack_l7) (l' := lz_Unpack_l8) (F := fun (x : Sl × Int × Unit) (y : Bs × Int × Int × Int × Unit) => lz_Unpack_6 c1 R x.1 x.2.1 y.1 y.2.1 y.2.2.1 y.2.2.2.1) hmix 8 (mkE_len ..) (by kernel_rfl) (fun x y w h => lz_Unpack_6_ok c1 R x.1 x.2.1 y.1 y.2.1 y.2.2.1 y.2.2.2.1 w h) (by kernel_rfl) h
theorem lz_Unpack_4_ok (c1 : (Bs × Sl × Unit) → (Int × Unit) → World → Prop) (R : (Bs × Int × Unit) → World → Prop) (s_0 : Bs) (most_1 : Int) (b_6 : Sl) (w : World) (h : lz_Unpack_4 c1 R s_0 most_1 b_6 w) : WPC P 110 [] (Code.at lz_Unpack_B [.snd, .snd, .snd, .fst, .blk, .blk, .snd]) (thenQ (fun env => getE env lz_Unpack_l2 fun (s : Bs × Sl × Unit) => getE env lz_Unpack_l3 (c1 s)) (blockQ 0 (fun env => getE env lz_Unpack_l4 fun (x : Sl × Unit) => lz_Unpack_2 R x.1) (topQ P [.tmp 4, .tmp 5] (.tup [.s, I]) R))) (mkE 110 lz_Unpack_l5 (s_0, most_1, b_6, ())) w :=
  pc_block (c := (Code.at lz_Unpack_B [.snd, .snd, .snd, .fst, .blk, .blk, .snd, .blk])) (id := 1) (by kernel_rfl) (pc_cut (T := (lz_Unpack_5 c1 R s_0 most_1 b_6) w) (l := lz_Unpack_l6) (F := fun (x : Bs × Int × Sl × Unit) => lz_Unpack_5 c1 R x.1 x.2.1 x.2.2.1) (c := (Code.at lz_Unpack_B [.snd, .snd, .snd, .fst, .blk, .blk, .snd, .blk])) hmix 0 (mkE_len ..) (by kernel_rfl) (fun x w h => lz_Unpack_5_ok c1 R x.1 x.2.1 x.2.2.1 w h) (by kernel_rfl) h)
theorem lz_Unpack_3_ok (c1 : (Bs × Sl × Unit) → (Int × Unit) → World → Prop) (R : (Bs × Int × Unit) → World → Prop) (s_0 : Bs) (b_6 : Sl) (most_1 : Int) (w : World) (h : lz_Unpack_3 c1 R s_0 b_6 most_1 w) : WPC P 110 [] (Code.at lz_Unpack_B [.snd, .snd, .snd, .fst, .blk, .blk]) (thenQ (fun env => getE env lz_Unpack_l2 fun (s : Bs × Sl × Unit) => getE env lz_Unpack_l3 (c1 s)) (blockQ 0 (fun env => getE env lz_Unpack_l4 fun (x : Sl × Unit) => lz_Unpack_2 R x.1) (topQ P [.tmp 4, .tmp 5] (.tup [.s, I]) R))) (mkE2 110 lz_Unpack_l2 lz_Unpack_l3 (s_0, b_6, ()) (most_1, ())) w :=
  pc_cut (T := lz_Unpack_3 c1 R s_0 b_6 most_1 w) (l := lz_Unpack_l5) (F := fun (x : Bs × Int × Sl × Unit) => lz_Unpack_4 c1 R x.1 x.2.1 x.2.2.1) hmix 1 (mkE2_len ..) (by kernel_rfl) (fun x w h => lz_Unpack_4_ok c1 R x.1 x.2.1 x.2.2.1 w h) (by kernel_rfl) h
theorem lz_Unpack_1_ok (R : (Bs × Int × Unit) → World → Prop) (s_0 : Bs) (b_6 : Sl) (most_1 : Int) (w : World) (h : lz_Unpack_1 R s_0 b_6 most_1 w) : WPC P 110 [] (Code.at lz_Unpack_B [.snd, .snd, .snd]) (topQ P [.tmp 4, .tmp 5] (.tup [.s, I]) R) (mkE2 110 lz_Unpack_l2 lz_Unpack_l3 (s_0, b_6, ()) (most_1, ())) w :=
  pc_loopR (l := lz_Unpack_l2) (l' := lz_Unpack_l3) (body := fun (c1 : (Bs × Sl × Unit) → (Int × Unit) → World → Prop) (s : Bs × Sl × Unit) => lz_Unpack_3 c1 R s.1 s.2.1 most_1) (lr := lz_Unpack_l4) (FR := fun (x : Sl × Unit) => lz_Unpack_2 R x.1) (id := 0) (b := (Code.at lz_Unpack_B [.snd, .snd, .snd, .fst, .blk, .blk])) (rest := (Code.at lz_Unpack_B [.snd, .snd, .snd, .snd])) (by kernel_rfl) (fun c1 s w h => lz_Unpack_3_ok c1 R s.1 s.2.1 most_1 w h) (fun x w h => lz_Unpack_2_ok R x.1 w h) h
theorem lz_Unpack_0_ok (R : (Bs × Int × Unit) → World → Prop) (s_0 : Bs) (most_1 : Int) (w : World) (h : lz_Unpack_0 R s_0 most_1 w) : WPC P 110 [] (Code.at lz_Unpack_B []) (topQ P [.tmp 4, .tmp 5] (.tup [.s, I]) R) (mkE 110 lz_Unpack_l1 (s_0, most_1, ())) w :=
  pc_cut2 (T := lz_Unpack_0 R s_0 most_1 w) (l := lz_Unpack_l2) (l' := lz_Unpack_l3) (F := fun (x : Bs × Sl × Unit) (y : Int × Unit) => lz_Unpack_1 R x.1 x.2.1 y.1) hmix 3 (mkE_len ..) (by kernel_rfl) (fun x y w h => lz_Unpack_1_ok R x.1 x.2.1 y.1 w h) (by kernel_rfl) h
theorem lz_Unpack_call (R : (Bs × Int × Unit) → World → Prop) (s_0 : Bs) (most_1 : Int) (w : World) (h : lz_Unpack_0 R s_0 most_1 w) : mcall P n_lz_Unpack [(.string ⟨s_0.toArray⟩), (.int .i64 most_1)] (.tup [.s, I]) R w :=
  pc_top (T := (lz_Unpack_0 R s_0 most_1) w) (l := lz_Unpack_l1) (F := fun (x : Bs × Int × Unit) => lz_Unpack_0 R x.1 x.2.1) (n := 110) (c := lz_Unpack_B) Tryz.func10 rfl (by kernel_rfl) (by kernel_rfl) (by kernel_rfl) (fun x w h => lz_Unpack_0_ok R x.1 x.2.1 w h) (by kernel_rfl) h
/- headgate batch.Decode -/
noncomputable abbrev batch_Decode_B : Code := (Tryz.f11.body).getD .skip
abbrev batch_Decode_l1 : Slots := [(0, .s)]
abbrev batch_Decode_l2 : Slots := [(0, .s), (2, .ad), (4, .sl), (6, .ad)]
abbrev batch_Decode_l3 : Slots := [(0, .s), (2, .ad), (6, .ad)]
def batch_Decode_2 (R : (T_api_Batch × Int × Unit) → World → Prop) (s_0 : Bs) (v2 : Addr) (b_6 : Addr) : World → Prop :=
 mif (!(s_0 == []))
 (sto P t_api_Batch v2 k_api_Batch (0, 0, 0, 0, ⟨none, 0, 0⟩, ()) <|
 ld P t_api_Batch v2 k_api_Batch fun (x19 : T_api_Batch) =>
 R (x19, 2, ()))
 (ld P t_api_Batch b_6 k_api_Batch fun (x20 : T_api_Batch) =>
 mcall P n_batch_Check [(KV k_api_Batch x20)] I fun (x21 : Int) =>
 mif (x21 != 0)
 (sto P t_api_Batch v2 k_api_Batch (0, 0, 0, 0, ⟨none, 0, 0⟩, ()) <|
 ld P t_api_Batch v2 k_api_Batch fun (x22 : T_api_Batch) =>
 R (x22, 2, ()))
 (ld P t_api_Batch b_6 k_api_Batch fun (x23 : T_api_Batch) =>
 sto P t_api_Batch v2 k_api_Batch x23 <|
 ld P t_api_Batch v2 k_api_Batch fun (x24 : T_api_Batch) =>
 R (x24, 0, ())))
abbrev batch_Decode_l4 : Slots := [(0, .s), (2, .ad), (4, .sl), (6, .ad)]
abbrev batch_Decode_l5 : Slots := [(0, .s), (47, I)]
abbrev batch_Decode_l6 : Slots := [(2, .ad), (6, .ad), (46, I)]
def batch_Decode_5 (c1 : (Bs × Int × Unit) → (Addr × Addr × Int × Unit) → World → Prop) (R : (T_api_Batch × Int × Unit) → World → Prop) (s_0 : Bs) (v47 : Int) (v2 : Addr) (b_6 : Addr) (v46 : Int) : World → Prop :=
 mif (decide (v47 < v46))
 (mcall P n_batch_TakeRecord [(.string ⟨s_0.toArray⟩)] (.tup [k_api_Record, .s, I]) fun (x27 : T_api_Record × Bs × Int × Unit) =>
 alo P t_api_Record fun a28 =>
 sto P t_api_Record a28 k_api_Record x27.1 <|
 mif (x27.2.2.1 != 0)
 (sto P t_api_Batch v2 k_api_Batch (0, 0, 0, 0, ⟨none, 0, 0⟩, ()) <|
 ld P t_api_Batch v2 k_api_Batch fun (x29 : T_api_Batch) =>
 R (x29, x27.2.2.1, ()))
 (ld P t_sl_api_Record (ad b_6 4) .sl fun (x30 : Sl) =>
 ld P t_api_Record a28 k_api_Record fun (x31 : T_api_Record) =>
 bsl P t_sl_api_Record k_api_Record [x31] fun x32 =>
 app P #[t_sl_api_Record, t_sl_api_Record] t_sl_api_Record (Sl.v x30) (Sl.v x32) fun (x33 : Sl) =>
 sto P t_sl_api_Record (ad b_6 4) .sl x33 <|
 c1 (x27.2.1, w64 (v47 + 1), ()) (v2, b_6, v46, ())))
 (batch_Decode_2 R s_0 v2 b_6)
def batch_Decode_4 (R : (T_api_Batch × Int × Unit) → World → Prop) (s_0 : Bs) (v47 : Int) (v2 : Addr) (b_6 : Addr) (v46 : Int) : World → Prop :=
 W.Loop (v2, b_6, v46, ()) (fun (c1 : (Bs × Int × Unit) → (Addr × Addr × Int × Unit) → World → Prop) (s : Bs × Int × Unit) => batch_Decode_5 c1 R s.1 s.2.1 v2 b_6 v46) (s_0, v47, ())
def batch_Decode_3 (R : (T_api_Batch × Int × Unit) → World → Prop) (s_0 : Bs) (v2 : Addr) (l_4 : Sl) (b_6 : Addr) : World → Prop :=
 ixa P t_sl_int (Sl.v l_4) 4 fun (x25 : Addr) =>
 ld P t_int x25 I fun (x26 : Int) =>
 batch_Decode_4 R s_0 0 v2 b_6 x26
def batch_Decode_1 (R : (T_api_Batch × Int × Unit) → World → Prop) (s_0 : Bs) (v2 : Addr) (l_4 : Sl) (b_6 : Addr) : World → Prop :=
 batch_Decode_3 R s_0 v2 l_4 b_6
def batch_Decode_0 (R : (T_api_Batch × Int × Unit) → World → Prop) (s_0 : Bs) : World → Prop :=
 alo P t_api_Batch fun a1 =>
 mcall P n_varint_TakeAll [(.string ⟨s_0.toArray⟩), (.int .i64 5)] (.tup [.sl, .s, I]) fun (x2 : Sl × Bs × Int × Unit) =>
 mif (x2.2.2.1 != 0)
 (sto P t_api_Batch a1 k_api_Batch (0, 0, 0, 0, ⟨none, 0, 0⟩, ()) <|
 ld P t_api_Batch a1 k_api_Batch fun (x3 : T_api_Batch) =>
 R (x3, 2, ()))
 (ixa P t_sl_int (Sl.v x2.1) 4 fun (x4 : Addr) =>
 ld P t_int x4 I fun (x5 : Int) =>
 mif (decide (x5 < 0))
 (sto P t_api_Batch a1 k_api_Batch (0, 0, 0, 0, ⟨none, 0, 0⟩, ()) <|
 ld P t_api_Batch a1 k_api_Batch fun (x6 : T_api_Batch) =>
 R (x6, 2, ()))
 (ixa P t_sl_int (Sl.v x2.1) 4 fun (x7 : Addr) =>
 ld P t_int x7 I fun (x8 : Int) =>
 mif (decide (x8 > 64))
 (sto P t_api_Batch a1 k_api_Batch (0, 0, 0, 0, ⟨none, 0, 0⟩, ()) <|
 ld P t_api_Batch a1 k_api_Batch fun (x9 : T_api_Batch) =>
 R (x9, 2, ()))
 (mdraw <|
 ixa P t_sl_int (Sl.v x2.1) 0 fun (x10 : Addr) =>
 ld P t_int x10 I fun (x11 : Int) =>
 ixa P t_sl_int (Sl.v x2.1) 1 fun (x12 : Addr) =>
 ld P t_int x12 I fun (x13 : Int) =>
 ixa P t_sl_int (Sl.v x2.1) 2 fun (x14 : Addr) =>
 ld P t_int x14 I fun (x15 : Int) =>
 ixa P t_sl_int (Sl.v x2.1) 3 fun (x16 : Addr) =>
 ld P t_int x16 I fun (x17 : Int) =>
 alo P t_api_Batch fun a18 =>
 mst P (Instr.loadAt t_int (.pointer (some x16))) (.int .i64 x17) <|
 mst P (Instr.indexAt t_sl_int (.slice x2.1.a x2.1.len x2.1.cap) (.int .i64 3)) (.pointer (some x16)) <|
 mst P (Instr.loadAt t_int (.pointer (some x14))) (.int .i64 x15) <|
 mst P (Instr.indexAt t_sl_int (.slice x2.1.a x2.1.len x2.1.cap) (.int .i64 2)) (.pointer (some x14)) <|
 mst P (Instr.loadAt t_int (.pointer (some x12))) (.int .i64 x13) <|
 mst P (Instr.indexAt t_sl_int (.slice x2.1.a x2.1.len x2.1.cap) (.int .i64 1)) (.pointer (some x12)) <|
 mst P (Instr.loadAt t_int (.pointer (some x10))) (.int .i64 x11) <|
 mst P (Instr.indexAt t_sl_int (.slice x2.1.a x2.1.len x2.1.cap) (.int .i64 0)) (.pointer (some x10)) <|
 sto P t_api_Batch a18 k_api_Batch (x11, x13, x15, x17, ⟨none, 0, 0⟩, ()) <|
 batch_Decode_1 R x2.2.1 a1 x2.1 a18)))
theorem batch_Decode_2_ok (R : (T_api_Batch × Int × Unit) → World → Prop) (s_0 : Bs) (v2 : Addr) (b_6 : Addr) (w : World) (h : batch_Decode_2 R s_0 v2 b_6 w) : WPC P 76 [] (Code.at batch_Decode_B [.snd, .snd, .snd, .snd, .snd]) (topQ P [.cell 2 t_api_Batch, .tmp 3] (.tup [k_api_Batch, I]) R) (mkE 76 batch_Decode_l3 (s_0, v2, b_6, ())) w :=
  pc_end (T := batch_Decode_2 R s_0 v2 b_6 w) hmix (by kernel_rfl) h
theorem batch_Decode_5_ok (c1 : (Bs × Int × Unit) → (Addr × Addr × Int × Unit) → World → Prop) (R : (T_api_Batch × Int × Unit) → World → Prop) (s_0 : Bs) (v47 : Int) (v2 : Addr) (b_6 : Addr) (v46 : Int) (w : World) (h : batch_Decode_5 c1 R s_0 v47 v2 b_6 v46 w) : WPC P 76 [] (Code.at batch_Decode_B [.snd, .snd, .snd, .snd, .fst, .snd, .blk, .blk]) (thenQ (fun env => getE env batch_Decode_l5 fun (s : Bs × Int × Unit) => getE env batch_Decode_l6 (c1 s)) (blockQ 0 ((thenQ (fun env => getE env batch_Decode_l3 fun (x : Bs × Addr × Addr × Unit) => batch_Decode_2 R x.1 x.2.1 x.2.2.1) (topQ P [.cell 2 t_api_Batch, .tmp 3] (.tup [k_api_Batch, I]) R)) .normal) (thenQ (fun env => getE env batch_Decode_l3 fun (x : Bs × Addr × Addr × Unit) => batch_Decode_2 R x.1 x.2.1 x.2.2.1) (topQ P [.cell 2 t_api_Batch, .tmp 3] (.tup [k_api_Batch, I]) R)))) (mkE2 76 batch_Decode_l5 batch_Decode_l6 (s_0, v47, ()) (v2, b_6, v46, ())) w :=
  pc_end (T := batch_Decode_5 c1 R s_0 v47 v2 b_6 v46 w) hmix (by kernel_rfl) h
theorem batch_Decode_4_ok (R : (T_api_Batch × Int × Unit) → World → Prop) (s_0 : Bs) (v47 : Int) (v2 : Addr) (b_6 : Addr) (v46 : Int) (w : World) (h : batch_Decode_4 R s_0 v47 v2 b_6 v46 w) : WPC P 76 [] (Code.at batch_Decode_B [.snd, .snd, .snd, .snd, .fst, .snd]) (thenQ (fun env => getE env batch_Decode_l3 fun (x : Bs × Addr × Addr × Unit) => batch_Decode_2 R x.1 x.2.1 x.2.2.1) (topQ P [.cell 2 t_api_Batch, .tmp 3] (.tup [k_api_Batch, I]) R)) (mkE2 76 batch_Decode_l5 batch_Decode_l6 (s_0, v47, ()) (v2, b_6, v46, ())) w :=
  pc_loopE (l := batch_Decode_l5) (l' := batch_Decode_l6) (body := fun (c1 : (Bs × Int × Unit) → (Addr × Addr × Int × Unit) → World → Prop) (s : Bs × Int × Unit) => batch_Decode_5 c1 R s.1 s.2.1 v2 b_6 v46) (id := 0) (b := (Code.at batch_Decode_B [.snd, .snd, .snd, .snd, .fst, .snd, .blk, .blk])) (by kernel_rfl) (fun c1 s w h => batch_Decode_5_ok c1 R s.1 s.2.1 v2 b_6 v46 w h) h
theorem batch_Decode_3_ok (R : (T_api_Batch × Int × Unit) → World → Prop) (s_0 : Bs) (v2 : Addr) (l_4 : Sl) (b_6 : Addr) (w : World) (h : batch_Decode_3 R s_0 v2 l_4 b_6 w) : WPC P 76 [] (Code.at batch_Decode_B [.snd, .snd, .snd, .snd, .fst]) (thenQ (fun env => getE env batch_Decode_l3 fun (x : Bs × Addr × Addr × Unit) => batch_Decode_2 R x.1 x.2.1 x.2.2.1) (topQ P [.cell 2 t_api_Batch, .tmp 3] (.tup [k_api_Batch, I]) R)) (mkE 76 batch_Decode_l4 (s_0, v2, l_4, b_6, ())) w :=
  pc_cut2 (T := batch_Decode_3 R s_0 v2 l_4 b_6 w) (l := batch_Decode_l5) (l' := batch_Decode_l6) (F := fun (x : Bs × Int × Unit) (y : Addr × Addr × Int × Unit) => batch_Decode_4 R x.1 x.2.1 y.1 y.2.1 y.2.2.1) hmix 1 (mkE_len ..) (by kernel_rfl) (fun x y w h => batch_Decode_4_ok R x.1 x.2.1 y.1 y.2.1 y.2.2.1 w h) (by kernel_rfl) h
theorem batch_Decode_1_ok (R : (T_api_Batch × Int × Unit) → World → Prop) (s_0 : Bs) (v2 : Addr) (l_4 : Sl) (b_6 : Addr) (w : World) (h : batch_Decode_1 R s_0 v2 l_4 b_6 w) : WPC P 76 [] (Code.at batch_Decode_B [.snd, .snd, .snd, .snd]) (topQ P [.cell 2 t_api_Batch, .tmp 3] (.tup [k_api_Batch, I]) R) (mkE 76 batch_Decode_l2 (s_0, v2, l_4, b_6, ())) w :=
  pc_seq (l := batch_Decode_l3) (F := fun (x : Bs × Addr × Addr × Unit) => batch_Decode_2 R x.1 x.2.1 x.2.2.1) (a := (Code.at batch_Decode_B [.snd, .snd, .snd, .snd, .fst])) (b := (Code.at batch_Decode_B [.snd, .snd, .snd, .snd, .snd])) (by kernel_rfl) (pc_cut (T := (batch_Decode_3 R s_0 v2 l_4 b_6) w) (l := batch_Decode_l4) (F := fun (x : Bs × Addr × Sl × Addr × Unit) => batch_Decode_3 R x.1 x.2.1 x.2.2.1 x.2.2.2.1) (c := (Code.at batch_Decode_B [.snd, .snd, .snd, .snd, .fst])) hmix 0 (mkE_len ..) (by kernel_rfl) (fun x w h => batch_Decode_3_ok R x.1 x.2.1 x.2.2.1 x.2.2.2.1 w h) (by kernel_rfl) h) (fun x w h => batch_Decode_2_ok R x.1 x.2.1 x.2.2.1 w h)
theorem batch_Decode_0_ok (R : (T_api_Batch × Int × Unit) → World → Prop) (s_0 : Bs) (w : World) (h : batch_Decode_0 R s_0 w) : WPC P 76 [] (Code.at batch_Decode_B []) (topQ P [.cell 2 t_api_Batch, .tmp 3] (.tup [k_api_Batch, I]) R) (mkE 76 batch_Decode_l1 (s_0, ())) w :=
  pc_cut (T := batch_Decode_0 R s_0 w) (l := batch_Decode_l2) (F := fun (x : Bs × Addr × Sl × Addr × Unit) => batch_Decode_1 R x.1 x.2.1 x.2.2.1 x.2.2.2.1) hmix 4 (mkE_len ..) (by kernel_rfl) (fun x w h => batch_Decode_1_ok R x.1 x.2.1 x.2.2.1 x.2.2.2.1 w h) (by kernel_rfl) h
theorem batch_Decode_call (R : (T_api_Batch × Int × Unit) → World → Prop) (s_0 : Bs) (w : World) (h : batch_Decode_0 R s_0 w) : mcall P n_batch_Decode [(.string ⟨s_0.toArray⟩)] (.tup [k_api_Batch, I]) R w :=
  pc_top (T := (batch_Decode_0 R s_0) w) (l := batch_Decode_l1) (F := fun (x : Bs × Unit) => batch_Decode_0 R x.1) (n := 76) (c := batch_Decode_B) Tryz.func11 rfl (by kernel_rfl) (by kernel_rfl) (by kernel_rfl) (fun x w h => batch_Decode_0_ok R x.1 w h) (by kernel_rfl) h
/- headgate headgatetop.awake17 -/
noncomputable abbrev headgatetop_awake17_B : Code := (Tryz.f12.body).getD .skip
abbrev headgatetop_awake17_l1 : Slots := []
def headgatetop_awake17_0 (R : Bool → World → Prop) : World → Prop :=
 mcall P n_disk_New [(.int .i64 50)] (.tup [.p, I]) fun (x1 : Option Addr × Int × Unit) =>
 mcall P n_part_Open [(.pointer x1.1), (.string ⟨[99, 104, 103, 48].toArray⟩)] (.tup [.p, I]) fun (x2 : Option Addr × Int × Unit) =>
 mif (x1.2.1 != 0)
 (R false)
 (mif (x2.2.1 != 0)
 (R false)
 (meq P .eql t_ptr_part_Part (.pointer x2.1) (.pointer none) fun (x3 : Bool) =>
 mif x3
 (R false)
 (mcall P n_change_Diff [(KV k_api_Batch ((-1), 0, 0, 0, ⟨none, 0, 0⟩, ())), (KV k_api_Batch (3, 0, 0, 1, ⟨none, 0, 0⟩, ()))] .sl fun (x4 : Sl) =>
 mcall P n_part_Part_Put [(.pointer x2.1), (KV k_api_Batch (1, 0, 0, 0, x4, ()))] (.tup [I, .b, I]) fun (x5 : Int × Bool × Int × Unit) =>
 mcall P n_part_Part_Fetch [(.pointer x2.1), (.int .i64 0), (.int .i64 9), (.bool true)] (.tup [.sl, I, I]) fun (x6 : Sl × Int × Int × Unit) =>
 mdraw <|
 mif ((x4.len : Int) == 1)
 (mif (x5.1 == 0)
 (mif (!x5.2.1)
 (mif (x5.2.2.1 == 0)
 (mif ((x6.1.len : Int) == 1)
 (ixa P t_sl_api_Got (Sl.v x6.1) 0 fun (x7 : Addr) =>
 ld P t_api_Record (ad x7 1) k_api_Record fun (x8 : T_api_Record) =>
 ixa P t_sl_api_Record (Sl.v x4) 0 fun (x9 : Addr) =>
 ld P t_api_Record x9 k_api_Record fun (x10 : T_api_Record) =>
 meq P .eql t_api_Record (KV k_api_Record x8) (KV k_api_Record x10) fun (x11 : Bool) =>
 mif x11
 (R (x6.2.2.1 == 0))
 (R false))
 (R false))
 (R false))
 (R false))
 (R false))
 (R false))))
theorem headgatetop_awake17_0_ok (R : Bool → World → Prop) (w : World) (h : headgatetop_awake17_0 R w) : WPC P 82 [] (Code.at headgatetop_awake17_B []) (topQ P [.tmp 0] .b R) (mkE 82 headgatetop_awake17_l1 (())) w :=
  pc_end (T := headgatetop_awake17_0 R w) hmix (by kernel_rfl) h
theorem headgatetop_awake17_call (R : Bool → World → Prop)  (w : World) (h : headgatetop_awake17_0 R w) : mcall P n_headgatetop_awake17 [] .b R w :=
  pc_top (T := (headgatetop_awake17_0 R) w) (l := headgatetop_awake17_l1) (F := fun (x : Unit) => headgatetop_awake17_0 R) (n := 82) (c := headgatetop_awake17_B) Tryz.func12 rfl (by kernel_rfl) (by kernel_rfl) (by kernel_rfl) (fun x w h => headgatetop_awake17_0_ok R w h) (by kernel_rfl) h
/- headgate headgateref06.In -/
noncomputable abbrev headgateref06_In_B : Code := (Tryz.f13.body).getD .skip
abbrev headgateref06_In_l1 : Slots := [(0, I)]
def headgateref06_In_0 (R : Bool → World → Prop) (n_0 : Int) : World → Prop :=
 mif (decide (n_0 ≥ 0))
 (R (decide (n_0 ≤ 1099511627776)))
 (R false)
theorem headgateref06_In_0_ok (R : Bool → World → Prop) (n_0 : Int) (w : World) (h : headgateref06_In_0 R n_0 w) : WPC P 9 [] (Code.at headgateref06_In_B []) (topQ P [.tmp 2] .b R) (mkE 9 headgateref06_In_l1 (n_0, ())) w :=
  pc_end (T := headgateref06_In_0 R n_0 w) hmix (by kernel_rfl) h
theorem headgateref06_In_call (R : Bool → World → Prop) (n_0 : Int) (w : World) (h : headgateref06_In_0 R n_0 w) : mcall P n_headgateref06_In [(.int .i64 n_0)] .b R w :=
  pc_top (T := (headgateref06_In_0 R n_0) w) (l := headgateref06_In_l1) (F := fun (x : Int × Unit) => headgateref06_In_0 R x.1) (n := 9) (c := headgateref06_In_B) Tryz.func13 rfl (by kernel_rfl) (by kernel_rfl) (by kernel_rfl) (fun x w h => headgateref06_In_0_ok R x.1 w h) (by kernel_rfl) h
/- headgate headgateref06.MayRecord -/
noncomputable abbrev headgateref06_MayRecord_B : Code := (Tryz.f14.body).getD .skip
abbrev headgateref06_MayRecord_l1 : Slots := [(0, k_api_Record)]
def headgateref06_MayRecord_0 (R : Bool → World → Prop) (r_0 : T_api_Record) : World → Prop :=
 bx P t_api_Record k_api_Record r_0 fun a1 =>
 ld P t_int a1 I fun (x2 : Int) =>
 mif (decide (x2 ≥ 0))
 (ld P t_int a1 I fun (x3 : Int) =>
 mif (decide (x3 ≤ 1048576))
 (ld P t_int (ad a1 1) I fun (x4 : Int) =>
 mcall P n_headgateref06_In [(.int .i64 x4)] .b fun (x5 : Bool) =>
 mif x5
 (ld P t_string (ad a1 2) .s fun (x6 : Bs) =>
 R (decide ((x6.length : Int) ≤ 512)))
 (R false))
 (R false))
 (R false)
theorem headgateref06_MayRecord_0_ok (R : Bool → World → Prop) (r_0 : T_api_Record) (w : World) (h : headgateref06_MayRecord_0 R r_0 w) : WPC P 22 [] (Code.at headgateref06_MayRecord_B []) (topQ P [.tmp 2] .b R) (mkE 22 headgateref06_MayRecord_l1 (r_0, ())) w :=
  pc_end (T := headgateref06_MayRecord_0 R r_0 w) hmix (by kernel_rfl) h
theorem headgateref06_MayRecord_call (R : Bool → World → Prop) (r_0 : T_api_Record) (w : World) (h : headgateref06_MayRecord_0 R r_0 w) : mcall P n_headgateref06_MayRecord [(KV k_api_Record r_0)] .b R w :=
  pc_top (T := (headgateref06_MayRecord_0 R r_0) w) (l := headgateref06_MayRecord_l1) (F := fun (x : T_api_Record × Unit) => headgateref06_MayRecord_0 R x.1) (n := 22) (c := headgateref06_MayRecord_B) Tryz.func14 rfl (by kernel_rfl) (by kernel_rfl) (by kernel_rfl) (fun x w h => headgateref06_MayRecord_0_ok R x.1 w h) (by kernel_rfl) h
/- headgate batch.Check -/
noncomputable abbrev batch_Check_B : Code := (Tryz.f15.body).getD .skip
abbrev batch_Check_l1 : Slots := [(0, k_api_Batch)]
abbrev batch_Check_l2 : Slots := [(1, .ad), (3, .b)]
abbrev batch_Check_l3 : Slots := [(1, .ad), (3, .b)]
abbrev batch_Check_l4 : Slots := [(1, .ad), (3, .b), (6, .b)]
abbrev batch_Check_l5 : Slots := [(1, .ad), (3, .b), (6, .b), (7, .b)]
abbrev batch_Check_l6 : Slots := [(3, .b)]
def batch_Check_5 (R : Int → World → Prop) (ok_3 : Bool) : World → Prop :=
 mif (!ok_3)
 (R 1)
 (R 0)
def batch_Check_4 (R : Int → World → Prop) (b_1 : Addr) (ok_3 : Bool) (nobody_6 : Bool) (somebody_7 : Bool) : World → Prop :=
 ld P t_int b_1 I fun (x14 : Int) =>
 mif (x14 == 1)
 (mif ok_3
 (ld P t_sl_api_Record (ad b_1 4) .sl fun (x15 : Sl) =>
 mif (decide ((x15.len : Int) > 0))
 (mif nobody_6
 (batch_Check_5 R true)
 (batch_Check_5 R somebody_7))
 (batch_Check_5 R false))
 (batch_Check_5 R false))
 (mif (x14 == 2)
 (mif ok_3
 (ld P t_sl_api_Record (ad b_1 4) .sl fun (x16 : Sl) =>
 mif (decide ((x16.len : Int) > 0))
 (batch_Check_5 R somebody_7)
 (batch_Check_5 R false))
 (batch_Check_5 R false))
 (mif (x14 == 3)
 (mif (x14 == 3)
 (mif ok_3
 (ld P t_sl_api_Record (ad b_1 4) .sl fun (x17 : Sl) =>
 mif ((x17.len : Int) == 0)
 (mif somebody_7
 (ld P t_int (ad b_1 3) I fun (x18 : Int) =>
 batch_Check_5 R (x18 == 0))
 (batch_Check_5 R false))
 (batch_Check_5 R false))
 (batch_Check_5 R false))
 (batch_Check_5 R false))
 (mif (x14 == 4)
 (mif ok_3
 (ld P t_sl_api_Record (ad b_1 4) .sl fun (x19 : Sl) =>
 mif ((x19.len : Int) == 0)
 (mif somebody_7
 (ld P t_int (ad b_1 3) I fun (x20 : Int) =>
 batch_Check_5 R (x20 == 0))
 (batch_Check_5 R false))
 (batch_Check_5 R false))
 (batch_Check_5 R false))
 (batch_Check_5 R false))))
def batch_Check_3 (R : Int → World → Prop) (b_1 : Addr) (ok_3 : Bool) (nobody_6 : Bool) : World → Prop :=
 ld P t_int (ad b_1 1) I fun (x12 : Int) =>
 mif (decide (x12 > 0))
 (ld P t_int (ad b_1 2) I fun (x13 : Int) =>
 batch_Check_4 R b_1 ok_3 nobody_6 (decide (x13 > 0)))
 (batch_Check_4 R b_1 ok_3 nobody_6 false)
def batch_Check_2 (R : Int → World → Prop) (b_1 : Addr) (ok_3 : Bool) : World → Prop :=
 ld P t_int (ad b_1 1) I fun (x9 : Int) =>
 mif (x9 == 0)
 (ld P t_int (ad b_1 2) I fun (x10 : Int) =>
 mif (x10 == 0)
 (ld P t_int (ad b_1 3) I fun (x11 : Int) =>
 batch_Check_3 R b_1 ok_3 (x11 == 0))
 (batch_Check_3 R b_1 ok_3 false))
 (batch_Check_3 R b_1 ok_3 false)
abbrev batch_Check_l7 : Slots := [(1, .ad), (3, .b)]
abbrev batch_Check_l8 : Slots := [(3, .b), (30, I)]
abbrev batch_Check_l9 : Slots := [(1, .ad), (28, .sl), (29, I)]
abbrev batch_Check_l10 : Slots := [(1, .ad), (3, .b), (28, .sl), (29, I), (30, I)]
def batch_Check_9 (c1 : (Bool × Int × Unit) → (Addr × Sl × Int × Unit) → World → Prop) (R : Int → World → Prop) (b_1 : Addr) (ok_3 : Bool) (v28 : Sl) (v29 : Int) (v30 : Int) : World → Prop :=
 c1 (ok_3, w64 (v30 + 1), ()) (b_1, v28, v29, ())
def batch_Check_8 (c1 : (Bool × Int × Unit) → (Addr × Sl × Int × Unit) → World → Prop) (R : Int → World → Prop) (ok_3 : Bool) (v30 : Int) (b_1 : Addr) (v28 : Sl) (v29 : Int) : World → Prop :=
 mif (decide (v30 < v29))
 (ixa P t_sl_api_Record (Sl.v v28) v30 fun (x22 : Addr) =>
 ld P t_api_Record x22 k_api_Record fun (x23 : T_api_Record) =>
 alo P t_api_Record fun a24 =>
 sto P t_api_Record a24 k_api_Record x23 <|
 mif ok_3
 (ld P t_api_Record a24 k_api_Record fun (x25 : T_api_Record) =>
 mcall P n_batch_may [(KV k_api_Record x25)] .b fun (x26 : Bool) =>
 batch_Check_9 c1 R b_1 x26 v28 v29 v30)
 (batch_Check_9 c1 R b_1 false v28 v29 v30))
 (batch_Check_2 R b_1 ok_3)
def batch_Check_7 (R : Int → World → Prop) (ok_3 : Bool) (v30 : Int) (b_1 : Addr) (v28 : Sl) (v29 : Int) : World → Prop :=
 W.Loop (b_1, v28, v29, ()) (fun (c1 : (Bool × Int × Unit) → (Addr × Sl × Int × Unit) → World → Prop) (s : Bool × Int × Unit) => batch_Check_8 c1 R s.1 s.2.1 b_1 v28 v29) (ok_3, v30, ())
def batch_Check_6 (R : Int → World → Prop) (b_1 : Addr) (ok_3 : Bool) : World → Prop :=
 ld P t_sl_api_Record (ad b_1 4) .sl fun (x21 : Sl) =>
 batch_Check_7 R ok_3 0 b_1 x21 (x21.len : Int)
def batch_Check_1 (R : Int → World → Prop) (b_1 : Addr) (ok_3 : Bool) : World → Prop :=
 batch_Check_6 R b_1 ok_3
def batch_Check_0 (R : Int → World → Prop) (b_0 : T_api_Batch) : World → Prop :=
 bx P t_api_Batch k_api_Batch b_0 fun a1 =>
 ld P t_int (ad a1 1) I fun (x2 : Int) =>
 ld P t_int (ad a1 2) I fun (x3 : Int) =>
 ld P t_int (ad a1 3) I fun (x4 : Int) =>
 bsl P t_sl_int I [x2, x3, x4] fun x5 =>
 mcall P n_batch_within [(Sl.v x5)] .b fun (x6 : Bool) =>
 mif x6
 (ld P t_int (ad a1 1) I fun (x7 : Int) =>
 mif (decide (x7 ≤ 8))
 (ld P t_sl_api_Record (ad a1 4) .sl fun (x8 : Sl) =>
 batch_Check_1 R a1 (decide ((x8.len : Int) ≤ 64)))
 (batch_Check_1 R a1 false))
 (batch_Check_1 R a1 false)
theorem batch_Check_5_ok (R : Int → World → Prop) (ok_3 : Bool) (w : World) (h : batch_Check_5 R ok_3 w) : WPC P 110 [] (Code.at batch_Check_B [.snd, .snd, .snd, .snd, .snd, .snd]) (topQ P [.tmp 2] I R) (mkE 110 batch_Check_l6 (ok_3, ())) w :=
  pc_end (T := batch_Check_5 R ok_3 w) hmix (by kernel_rfl) h
theorem batch_Check_4_ok (R : Int → World → Prop) (b_1 : Addr) (ok_3 : Bool) (nobody_6 : Bool) (somebody_7 : Bool) (w : World) (h : batch_Check_4 R b_1 ok_3 nobody_6 somebody_7 w) : WPC P 110 [] (Code.at batch_Check_B [.snd, .snd, .snd, .snd, .snd]) (topQ P [.tmp 2] I R) (mkE 110 batch_Check_l5 (b_1, ok_3, nobody_6, somebody_7, ())) w :=
  pc_cut (T := batch_Check_4 R b_1 ok_3 nobody_6 somebody_7 w) (l := batch_Check_l6) (F := fun (x : Bool × Unit) => batch_Check_5 R x.1) hmix 1 (mkE_len ..) (by kernel_rfl) (fun x w h => batch_Check_5_ok R x.1 w h) (by kernel_rfl) h
theorem batch_Check_3_ok (R : Int → World → Prop) (b_1 : Addr) (ok_3 : Bool) (nobody_6 : Bool) (w : World) (h : batch_Check_3 R b_1 ok_3 nobody_6 w) : WPC P 110 [] (Code.at batch_Check_B [.snd, .snd, .snd, .snd]) (topQ P [.tmp 2] I R) (mkE 110 batch_Check_l4 (b_1, ok_3, nobody_6, ())) w :=
  pc_cut (T := batch_Check_3 R b_1 ok_3 nobody_6 w) (l := batch_Check_l5) (F := fun (x : Addr × Bool × Bool × Bool × Unit) => batch_Check_4 R x.1 x.2.1 x.2.2.1 x.2.2.2.1) hmix 1 (mkE_len ..) (by kernel_rfl) (fun x w h => batch_Check_4_ok R x.1 x.2.1 x.2.2.1 x.2.2.2.1 w h) (by kernel_rfl) h
theorem batch_Check_2_ok (R : Int → World → Prop) (b_1 : Addr) (ok_3 : Bool) (w : World) (h : batch_Check_2 R b_1 ok_3 w) : WPC P 110 [] (Code.at batch_Check_B [.snd, .snd, .snd]) (topQ P [.tmp 2] I R) (mkE 110 batch_Check_l3 (b_1, ok_3, ())) w :=
  pc_cut (T := batch_Check_2 R b_1 ok_3 w) (l := batch_Check_l4) (F := fun (x : Addr × Bool × Bool × Unit) => batch_Check_3 R x.1 x.2.1 x.2.2.1) hmix 1 (mkE_len ..) (by kernel_rfl) (fun x w h => batch_Check_3_ok R x.1 x.2.1 x.2.2.1 w h) (by kernel_rfl) h
theorem batch_Check_9_ok (c1 : (Bool × Int × Unit) → (Addr × Sl × Int × Unit) → World → Prop) (R : Int → World → Prop) (b_1 : Addr) (ok_3 : Bool) (v28 : Sl) (v29 : Int) (v30 : Int) (w : World) (h : batch_Check_9 c1 R b_1 ok_3 v28 v29 v30 w) : WPC P 110 [] (Code.at batch_Check_B [.snd, .snd, .fst, .snd, .blk, .blk, .snd, .snd, .snd]) (thenQ (fun env => getE env batch_Check_l8 fun (s : Bool × Int × Unit) => getE env batch_Check_l9 (c1 s)) (blockQ 0 ((thenQ (fun env => getE env batch_Check_l3 fun (x : Addr × Bool × Unit) => batch_Check_2 R x.1 x.2.1) (topQ P [.tmp 2] I R)) .normal) (thenQ (fun env => getE env batch_Check_l3 fun (x : Addr × Bool × Unit) => batch_Check_2 R x.1 x.2.1) (topQ P [.tmp 2] I R)))) (mkE 110 batch_Check_l10 (b_1, ok_3, v28, v29, v30, ())) w :=
  pc_end (T := batch_Check_9 c1 R b_1 ok_3 v28 v29 v30 w) hmix (by kernel_rfl) h
theorem batch_Check_8_ok (c1 : (Bool × Int × Unit) → (Addr × Sl × Int × Unit) → World → Prop) (R : Int → World → Prop) (ok_3 : Bool) (v30 : Int) (b_1 : Addr) (v28 : Sl) (v29 : Int) (w : World) (h : batch_Check_8 c1 R ok_3 v30 b_1 v28 v29 w) : WPC P 110 [] (Code.at batch_Check_B [.snd, .snd, .fst, .snd, .blk, .blk]) (thenQ (fun env => getE env batch_Check_l8 fun (s : Bool × Int × Unit) => getE env batch_Check_l9 (c1 s)) (blockQ 0 ((thenQ (fun env => getE env batch_Check_l3 fun (x : Addr × Bool × Unit) => batch_Check_2 R x.1 x.2.1) (topQ P [.tmp 2] I R)) .normal) (thenQ (fun env => getE env batch_Check_l3 fun (x : Addr × Bool × Unit) => batch_Check_2 R x.1 x.2.1) (topQ P [.tmp 2] I R)))) (mkE2 110 batch_Check_l8 batch_Check_l9 (ok_3, v30, ()) (b_1, v28, v29, ())) w :=
  pc_cut (T := batch_Check_8 c1 R ok_3 v30 b_1 v28 v29 w) (l := batch_Check_l10) (F := fun (x : Addr × Bool × Sl × Int × Int × Unit) => batch_Check_9 c1 R x.1 x.2.1 x.2.2.1 x.2.2.2.1 x.2.2.2.2.1) hmix 3 (mkE2_len ..) (by kernel_rfl) (fun x w h => batch_Check_9_ok c1 R x.1 x.2.1 x.2.2.1 x.2.2.2.1 x.2.2.2.2.1 w h) (by kernel_rfl) h
theorem batch_Check_7_ok (R : Int → World → Prop) (ok_3 : Bool) (v30 : Int) (b_1 : Addr) (v28 : Sl) (v29 : Int) (w : World) (h : batch_Check_7 R ok_3 v30 b_1 v28 v29 w) : WPC P 110 [] (Code.at batch_Check_B [.snd, .snd, .fst, .snd]) (thenQ (fun env => getE env batch_Check_l3 fun (x : Addr × Bool × Unit) => batch_Check_2 R x.1 x.2.1) (topQ P [.tmp 2] I R)) (mkE2 110 batch_Check_l8 batch_Check_l9 (ok_3, v30, ()) (b_1, v28, v29, ())) w :=
  pc_loopE (l := batch_Check_l8) (l' := batch_Check_l9) (body := fun (c1 : (Bool × Int × Unit) → (Addr × Sl × Int × Unit) → World → Prop) (s : Bool × Int × Unit) => batch_Check_8 c1 R s.1 s.2.1 b_1 v28 v29) (id := 0) (b := (Code.at batch_Check_B [.snd, .snd, .fst, .snd, .blk, .blk])) (by kernel_rfl) (fun c1 s w h => batch_Check_8_ok c1 R s.1 s.2.1 b_1 v28 v29 w h) h
theorem batch_Check_6_ok (R : Int → World → Prop) (b_1 : Addr) (ok_3 : Bool) (w : World) (h : batch_Check_6 R b_1 ok_3 w) : WPC P 110 [] (Code.at batch_Check_B [.snd, .snd, .fst]) (thenQ (fun env => getE env batch_Check_l3 fun (x : Addr × Bool × Unit) => batch_Check_2 R x.1 x.2.1) (topQ P [.tmp 2] I R)) (mkE 110 batch_Check_l7 (b_1, ok_3, ())) w :=
  pc_cut2 (T := batch_Check_6 R b_1 ok_3 w) (l := batch_Check_l8) (l' := batch_Check_l9) (F := fun (x : Bool × Int × Unit) (y : Addr × Sl × Int × Unit) => batch_Check_7 R x.1 x.2.1 y.1 y.2.1 y.2.2.1) hmix 1 (mkE_len ..) (by kernel_rfl) (fun x y w h => batch_Check_7_ok R x.1 x.2.1 y.1 y.2.1 y.2.2.1 w h) (by kernel_rfl) h
theorem batch_Check_1_ok (R : Int → World → Prop) (b_1 : Addr) (ok_3 : Bool) (w : World) (h : batch_Check_1 R b_1 ok_3 w) : WPC P 110 [] (Code.at batch_Check_B [.snd, .snd]) (topQ P [.tmp 2] I R) (mkE 110 batch_Check_l2 (b_1, ok_3, ())) w :=
  pc_seq (l := batch_Check_l3) (F := fun (x : Addr × Bool × Unit) => batch_Check_2 R x.1 x.2.1) (a := (Code.at batch_Check_B [.snd, .snd, .fst])) (b := (Code.at batch_Check_B [.snd, .snd, .snd])) (by kernel_rfl) (pc_cut (T := (batch_Check_6 R b_1 ok_3) w) (l := batch_Check_l7) (F := fun (x : Addr × Bool × Unit) => batch_Check_6 R x.1 x.2.1) (c := (Code.at batch_Check_B [.snd, .snd, .fst])) hmix 0 (mkE_len ..) (by kernel_rfl) (fun x w h => batch_Check_6_ok R x.1 x.2.1 w h) (by kernel_rfl) h) (fun x w h => batch_Check_2_ok R x.1 x.2.1 w h)
theorem batch_Check_0_ok (R : Int → World → Prop) (b_0 : T_api_Batch) (w : World) (h : batch_Check_0 R b_0 w) : WPC P 110 [] (Code.at batch_Check_B []) (topQ P [.tmp 2] I R) (mkE 110 batch_Check_l1 (b_0, ())) w :=
  pc_cut (T := batch_Check_0 R b_0 w) (l := batch_Check_l2) (F := fun (x : Addr × Bool × Unit) => batch_Check_1 R x.1 x.2.1) hmix 2 (mkE_len ..) (by kernel_rfl) (fun x w h => batch_Check_1_ok R x.1 x.2.1 w h) (by kernel_rfl) h
theorem batch_Check_call (R : Int → World → Prop) (b_0 : T_api_Batch) (w : World) (h : batch_Check_0 R b_0 w) : mcall P n_batch_Check [(KV k_api_Batch b_0)] I R w :=
  pc_top (T := (batch_Check_0 R b_0) w) (l := batch_Check_l1) (F := fun (x : T_api_Batch × Unit) => batch_Check_0 R x.1) (n := 110) (c := batch_Check_B) Tryz.func15 rfl (by kernel_rfl) (by kernel_rfl) (by kernel_rfl) (fun x w h => batch_Check_0_ok R x.1 w h) (by kernel_rfl) h
/- (*strings.Builder).WriteString -/
noncomputable abbrev strings_Builder_WriteString_B : Code := (Tryz.f16.body).getD .skip
abbrev strings_Builder_WriteString_l1 : Slots := [(0, .p), (1, .s)]
def strings_Builder_WriteString_0 (R : (Int × Value × Unit) → World → Prop) (b_0 : Option Addr) (s_1 : Bs) : World → Prop :=
 mcall P n_strings_Builder_copyCheck [(.pointer b_0)] (.tup []) fun (x1 : Unit) =>
 mnil b_0 fun a2 =>
 ld P t_sl_uint8 (ad a2 1) .sl fun (x3 : Sl) =>
 app P #[t_sl_uint8, t_string] t_sl_uint8 (Sl.v x3) (.string ⟨s_1.toArray⟩) fun (x4 : Sl) =>
 mnil b_0 fun a5 =>
 sto P t_sl_uint8 (ad a5 1) .sl x4 <|
 R ((s_1.length : Int), .nilIface, ())
theorem strings_Builder_WriteString_0_ok (R : (Int × Value × Unit) → World → Prop) (b_0 : Option Addr) (s_1 : Bs) (w : World) (h : strings_Builder_WriteString_0 R b_0 s_1 w) : WPC P 19 [] (Code.at strings_Builder_WriteString_B []) (topQ P [.tmp 4, .tmp 5] (.tup [I, .v]) R) (mkE 19 strings_Builder_WriteString_l1 (b_0, s_1, ())) w :=
  pc_end (T := strings_Builder_WriteString_0 R b_0 s_1 w) hmix (by kernel_rfl) h
theorem strings_Builder_WriteString_call (R : (Int × Value × Unit) → World → Prop) (b_0 : Option Addr) (s_1 : Bs) (w : World) (h : strings_Builder_WriteString_0 R b_0 s_1 w) : mcall P n_strings_Builder_WriteString [(.pointer b_0), (.string ⟨s_1.toArray⟩)] (.tup [I, .v]) R w :=
  pc_top (T := (strings_Builder_WriteString_0 R b_0 s_1) w) (l := strings_Builder_WriteString_l1) (F := fun (x : Option Addr × Bs × Unit) => strings_Builder_WriteString_0 R x.1 x.2.1) (n := 19) (c := strings_Builder_WriteString_B) Tryz.func16 rfl (by kernel_rfl) (by kernel_rfl) (by kernel_rfl) (fun x w h => strings_Builder_WriteString_0_ok R x.1 x.2.1 w h) (by kernel_rfl) h
/- headgate varint.PutAll -/
noncomputable abbrev varint_PutAll_B : Code := (Tryz.f17.body).getD .skip
abbrev varint_PutAll_l1 : Slots := [(0, .sl)]
abbrev varint_PutAll_l2 : Slots := [(0, .sl), (3, .ad)]
abbrev varint_PutAll_l3 : Slots := [(3, .ad)]
def varint_PutAll_2 (R : Bs → World → Prop) (b_3 : Addr) : World → Prop :=
 mcall P n_strings_Builder_String [(.pointer (some b_3))] .s fun (x2 : Bs) =>
 R x2
abbrev varint_PutAll_l4 : Slots := [(0, .sl), (3, .ad)]
abbrev varint_PutAll_l5 : Slots := [(8, I)]
abbrev varint_PutAll_l6 : Slots := [(3, .ad), (6, .sl), (7, I)]
def varint_PutAll_5 (c1 : (Int × Unit) → (Addr × Sl × Int × Unit) → World → Prop) (R : Bs → World → Prop) (v8 : Int) (b_3 : Addr) (v6 : Sl) (v7 : Int) : World → Prop :=
 mif (decide (v8 < v7))
 (ixa P t_sl_int (Sl.v v6) v8 fun (x3 : Addr) =>
 ld P t_int x3 I fun (x4 : Int) =>
 mcall P n_varint_Put [(.int .i64 x4)] .s fun (x5 : Bs) =>
 mcall P n_strings_Builder_WriteString [(.pointer (some b_3)), (.string ⟨x5.toArray⟩)] (.tup [I, .v]) fun (x6 : Int × Value × Unit) =>
 c1 (w64 (v8 + 1), ()) (b_3, v6, v7, ()))
 (varint_PutAll_2 R b_3)
def varint_PutAll_4 (R : Bs → World → Prop) (v8 : Int) (b_3 : Addr) (v6 : Sl) (v7 : Int) : World → Prop :=
 W.Loop (b_3, v6, v7, ()) (fun (c1 : (Int × Unit) → (Addr × Sl × Int × Unit) → World → Prop) (s : Int × Unit) => varint_PutAll_5 c1 R s.1 b_3 v6 v7) (v8, ())
def varint_PutAll_3 (R : Bs → World → Prop) (l_0 : Sl) (b_3 : Addr) : World → Prop :=
 varint_PutAll_4 R 0 b_3 l_0 (l_0.len : Int)
def varint_PutAll_1 (R : Bs → World → Prop) (l_0 : Sl) (b_3 : Addr) : World → Prop :=
 varint_PutAll_3 R l_0 b_3
def varint_PutAll_0 (R : Bs → World → Prop) (l_0 : Sl) : World → Prop :=
 alo P t_strings_Builder fun a1 =>
 varint_PutAll_1 R l_0 a1
theorem varint_PutAll_2_ok (R : Bs → World → Prop) (b_3 : Addr) (w : World) (h : varint_PutAll_2 R b_3 w) : WPC P 17 [] (Code.at varint_PutAll_B [.snd, .snd, .snd]) (topQ P [.tmp 2] .s R) (mkE 17 varint_PutAll_l3 (b_3, ())) w :=
  pc_end (T := varint_PutAll_2 R b_3 w) hmix (by kernel_rfl) h
theorem varint_PutAll_5_ok (c1 : (Int × Unit) → (Addr × Sl × Int × Unit) → World → Prop) (R : Bs → World → Prop) (v8 : Int) (b_3 : Addr) (v6 : Sl) (v7 : Int) (w : World) (h : varint_PutAll_5 c1 R v8 b_3 v6 v7 w) : WPC P 17 [] (Code.at varint_PutAll_B [.snd, .snd, .fst, .snd, .blk, .blk]) (thenQ (fun env => getE env varint_PutAll_l5 fun (s : Int × Unit) => getE env varint_PutAll_l6 (c1 s)) (blockQ 0 ((thenQ (fun env => getE env varint_PutAll_l3 fun (x : Addr × Unit) => varint_PutAll_2 R x.1) (topQ P [.tmp 2] .s R)) .normal) (thenQ (fun env => getE env varint_PutAll_l3 fun (x : Addr × Unit) => varint_PutAll_2 R x.1) (topQ P [.tmp 2] .s R)))) (mkE2 17 varint_PutAll_l5 varint_PutAll_l6 (v8, ()) (b_3, v6, v7, ())) w :=
  pc_end (T := varint_PutAll_5 c1 R v8 b_3 v6 v7 w) hmix (by kernel_rfl) h
theorem varint_PutAll_4_ok (R : Bs → World → Prop) (v8 : Int) (b_3 : Addr) (v6 : Sl) (v7 : Int) (w : World) (h : varint_PutAll_4 R v8 b_3 v6 v7 w) : WPC P 17 [] (Code.at varint_PutAll_B [.snd, .snd, .fst, .snd]) (thenQ (fun env => getE env varint_PutAll_l3 fun (x : Addr × Unit) => varint_PutAll_2 R x.1) (topQ P [.tmp 2] .s R)) (mkE2 17 varint_PutAll_l5 varint_PutAll_l6 (v8, ()) (b_3, v6, v7, ())) w :=
  pc_loopE (l := varint_PutAll_l5) (l' := varint_PutAll_l6) (body := fun (c1 : (Int × Unit) → (Addr × Sl × Int × Unit) → World → Prop) (s : Int × Unit) => varint_PutAll_5 c1 R s.1 b_3 v6 v7) (id := 0) (b := (Code.at varint_PutAll_B [.snd, .snd, .fst, .snd, .blk, .blk])) (by kernel_rfl) (fun c1 s w h => varint_PutAll_5_ok c1 R s.1 b_3 v6 v7 w h) h
theorem varint_PutAll_3_ok (R : Bs → World → Prop) (l_0 : Sl) (b_3 : Addr) (w : World) (h : varint_PutAll_3 R l_0 b_3 w) : WPC P 17 [] (Code.at varint_PutAll_B [.snd, .snd, .fst]) (thenQ (fun env => getE env varint_PutAll_l3 fun (x : Addr × Unit) => varint_PutAll_2 R x.1) (topQ P [.tmp 2] .s R)) (mkE 17 varint_PutAll_l4 (l_0, b_3, ())) w :=
  pc_cut2 (T := varint_PutAll_3 R l_0 b_3 w) (l := varint_PutAll_l5) (l' := varint_PutAll_l6) (F := fun (x : Int × Unit) (y : Addr × Sl × Int × Unit) => varint_PutAll_4 R x.1 y.1 y.2.1 y.2.2.1) hmix 1 (mkE_len ..) (by kernel_rfl) (fun x y w h => varint_PutAll_4_ok R x.1 y.1 y.2.1 y.2.2.1 w h) (by kernel_rfl) h
theorem varint_PutAll_1_ok (R : Bs → World → Prop) (l_0 : Sl) (b_3 : Addr) (w : World) (h : varint_PutAll_1 R l_0 b_3 w) : WPC P 17 [] (Code.at varint_PutAll_B [.snd, .snd]) (topQ P [.tmp 2] .s R) (mkE 17 varint_PutAll_l2 (l_0, b_3, ())) w :=
  pc_seq (l := varint_PutAll_l3) (F := fun (x : Addr × Unit) => varint_PutAll_2 R x.1) (a := (Code.at varint_PutAll_B [.snd, .snd, .fst])) (b := (Code.at varint_PutAll_B [.snd, .snd, .snd])) (by kernel_rfl) (pc_cut (T := (varint_PutAll_3 R l_0 b_3) w) (l := varint_PutAll_l4) (F := fun (x : Sl × Addr × Unit) => varint_PutAll_3 R x.1 x.2.1) (c := (Code.at varint_PutAll_B [.snd, .snd, .fst])) hmix 0 (mkE_len ..) (by kernel_rfl) (fun x w h => varint_PutAll_3_ok R x.1 x.2.1 w h) (by kernel_rfl) h) (fun x w h => varint_PutAll_2_ok R x.1 w h)
theorem varint_PutAll_0_ok (R : Bs → World → Prop) (l_0 : Sl) (w : World) (h : varint_PutAll_0 R l_0 w) : WPC P 17 [] (Code.at varint_PutAll_B []) (topQ P [.tmp 2] .s R) (mkE 17 varint_PutAll_l1 (l_0, ())) w :=
  pc_cut (T := varint_PutAll_0 R l_0 w) (l := varint_PutAll_l2) (F := fun (x : Sl × Addr × Unit) => varint_PutAll_1 R x.1 x.2.1) hmix 2 (mkE_len ..) (by kernel_rfl) (fun x w h => varint_PutAll_1_ok R x.1 x.2.1 w h) (by kernel_rfl) h
theorem varint_PutAll_call (R : Bs → World → Prop) (l_0 : Sl) (w : World) (h : varint_PutAll_0 R l_0 w) : mcall P n_varint_PutAll [(Sl.v l_0)] .s R w :=
  pc_top (T := (varint_PutAll_0 R l_0) w) (l := varint_PutAll_l1) (F := fun (x : Sl × Unit) => varint_PutAll_0 R x.1) (n := 17) (c := varint_PutAll_B) Tryz.func17 rfl (by kernel_rfl) (by kernel_rfl) (by kernel_rfl) (fun x w h => varint_PutAll_0_ok R x.1 w h) (by kernel_rfl) h
/- headgate batch.PutRecord -/
noncomputable abbrev batch_PutRecord_B : Code := (Tryz.f18.body).getD .skip
abbrev batch_PutRecord_l1 : Slots := [(0, k_api_Record)]
def batch_PutRecord_0 (R : Bs → World → Prop) (r_0 : T_api_Record) : World → Prop :=
 bx P t_api_Record k_api_Record r_0 fun a1 =>
 mdraw <|
 ld P t_int a1 I fun (x2 : Int) =>
 ld P t_int (ad a1 1) I fun (x3 : Int) =>
 ld P t_string (ad a1 2) .s fun (x4 : Bs) =>
 bsl P t_sl_int I [x2, x3] fun x5 =>
 mst P (Instr.loadAt t_string (.pointer (some (ad a1 2)))) (.string ⟨x4.toArray⟩) <|
 mcall P n_varint_PutAll [(Sl.v x5)] .s fun (x6 : Bs) =>
 mst P (Instr.loadAt t_string (.pointer (some (ad a1 2)))) (.string ⟨x4.toArray⟩) <|
 mcall P n_varint_PutText [(.string ⟨x4.toArray⟩)] .s fun (x7 : Bs) =>
 mcat x6 x7 fun s8 =>
 R s8
theorem batch_PutRecord_0_ok (R : Bs → World → Prop) (r_0 : T_api_Record) (w : World) (h : batch_PutRecord_0 R r_0 w) : WPC P 13 [] (Code.at batch_PutRecord_B []) (topQ P [.tmp 2] .s R) (mkE 13 batch_PutRecord_l1 (r_0, ())) w :=
  pc_end (T := batch_PutRecord_0 R r_0 w) hmix (by kernel_rfl) h
theorem batch_PutRecord_call (R : Bs → World → Prop) (r_0 : T_api_Record) (w : World) (h : batch_PutRecord_0 R r_0 w) : mcall P n_batch_PutRecord [(KV k_api_Record r_0)] .s R w :=
  pc_top (T := (batch_PutRecord_0 R r_0) w) (l := batch_PutRecord_l1) (F := fun (x : T_api_Record × Unit) => batch_PutRecord_0 R x.1) (n := 13) (c := batch_PutRecord_B) Tryz.func18 rfl (by kernel_rfl) (by kernel_rfl) (by kernel_rfl) (fun x w h => batch_PutRecord_0_ok R x.1 w h) (by kernel_rfl) h
/- (*strings.Builder).String -/
noncomputable abbrev strings_Builder_String_B : Code := (Tryz.f19.body).getD .skip
abbrev strings_Builder_String_l1 : Slots := [(0, .p)]
def strings_Builder_String_0 (R : Bs → World → Prop) (b_0 : Option Addr) : World → Prop :=
 mdraw <|
 mnil b_0 fun a1 =>
 ld P t_sl_uint8 (ad a1 1) .sl fun (x2 : Sl) =>
 mnil b_0 fun a3 =>
 ld P t_sl_uint8 (ad a3 1) .sl fun (x4 : Sl) =>
 mop P (Builtin.unsafeSliceData_ #[t_sl_uint8] t_ptr_uint8 #[.slice x2.a x2.len x2.cap]) .p fun (x5 : Option Addr) =>
 mst P (Instr.loadAt t_sl_uint8 (.pointer (some (ad a3 1)))) (.slice x4.a x4.len x4.cap) <|
 mop P (Builtin.unsafeString_ #[t_ptr_uint8, t_int] t_string #[.pointer x5, .int .i64 (x4.len : Int)]) .s fun (x6 : Bs) =>
 R x6
theorem strings_Builder_String_0_ok (R : Bs → World → Prop) (b_0 : Option Addr) (w : World) (h : strings_Builder_String_0 R b_0 w) : WPC P 14 [] (Code.at strings_Builder_String_B []) (topQ P [.tmp 2] .s R) (mkE 14 strings_Builder_String_l1 (b_0, ())) w :=
  pc_end (T := strings_Builder_String_0 R b_0 w) hmix (by kernel_rfl) h
theorem strings_Builder_String_call (R : Bs → World → Prop) (b_0 : Option Addr) (w : World) (h : strings_Builder_String_0 R b_0 w) : mcall P n_strings_Builder_String [(.pointer b_0)] .s R w :=
  pc_top (T := (strings_Builder_String_0 R b_0) w) (l := strings_Builder_String_l1) (F := fun (x : Option Addr × Unit) => strings_Builder_String_0 R x.1) (n := 14) (c := strings_Builder_String_B) Tryz.func19 rfl (by kernel_rfl) (by kernel_rfl) (by kernel_rfl) (fun x w h => strings_Builder_String_0_ok R x.1 w h) (by kernel_rfl) h
/- headgate lz.again -/
noncomputable abbrev lz_again_B : Code := (Tryz.f20.body).getD .skip
abbrev lz_again_l1 : Slots := [(0, .s)]
abbrev lz_again_l2 : Slots := [(0, .s), (3, .ad), (4, I)]
abbrev lz_again_l3 : Slots := [(3, .ad)]
def lz_again_2 (R : Bs → World → Prop) (b_3 : Addr) : World → Prop :=
 mcall P n_strings_Builder_String [(.pointer (some b_3))] .s fun (x8 : Bs) =>
 R x8
def lz_again_1 (R : Bs → World → Prop) (s_0 : Bs) (b_3 : Addr) (n_4 : Int) : World → Prop :=
 sls P t_string s_0 none (some n_4) fun (x3 : Bs) =>
 mcall P n_lz_literal [(.pointer (some b_3)), (.string ⟨x3.toArray⟩)] (.tup []) fun (x4 : Unit) =>
 mif (decide (n_4 < (s_0.length : Int)))
 (bsl P t_sl_int I [w64 ((w64 (2 * (w64 ((w64 ((s_0.length : Int) - n_4)) - 4)))) + 1), n_4] fun x5 =>
 mcall P n_varint_PutAll [(Sl.v x5)] .s fun (x6 : Bs) =>
 mcall P n_strings_Builder_WriteString [(.pointer (some b_3)), (.string ⟨x6.toArray⟩)] (.tup [I, .v]) fun (x7 : Int × Value × Unit) =>
 lz_again_2 R b_3)
 (lz_again_2 R b_3)
def lz_again_0 (R : Bs → World → Prop) (s_0 : Bs) : World → Prop :=
 alo P t_strings_Builder fun a1 =>
 mcall P n_lz_period [(.string ⟨s_0.toArray⟩)] I fun (x2 : Int) =>
 mif (decide (x2 > 4096))
 (lz_again_1 R s_0 a1 (s_0.length : Int))
 (mif (decide ((w64 ((s_0.length : Int) - x2)) < 4))
 (lz_again_1 R s_0 a1 (s_0.length : Int))
 (lz_again_1 R s_0 a1 x2))
theorem lz_again_2_ok (R : Bs → World → Prop) (b_3 : Addr) (w : World) (h : lz_again_2 R b_3 w) : WPC P 38 [] (Code.at lz_again_B [.snd, .snd, .snd, .snd, .snd, .snd]) (topQ P [.tmp 2] .s R) (mkE 38 lz_again_l3 (b_3, ())) w :=
  pc_end (T := lz_again_2 R b_3 w) hmix (by kernel_rfl) h
theorem lz_again_1_ok (R : Bs → World → Prop) (s_0 : Bs) (b_3 : Addr) (n_4 : Int) (w : World) (h : lz_again_1 R s_0 b_3 n_4 w) : WPC P 38 [] (Code.at lz_again_B [.snd, .snd, .snd, .snd]) (topQ P [.tmp 2] .s R) (mkE 38 lz_again_l2 (s_0, b_3, n_4, ())) w :=
  pc_cut (T := lz_again_1 R s_0 b_3 n_4 w) (l := lz_again_l3) (F := fun (x : Addr × Unit) => lz_again_2 R x.1) hmix 2 (mkE_len ..) (by kernel_rfl) (fun x w h => lz_again_2_ok R x.1 w h) (by kernel_rfl) h
theorem lz_again_0_ok (R : Bs → World → Prop) (s_0 : Bs) (w : World) (h : lz_again_0 R s_0 w) : WPC P 38 [] (Code.at lz_again_B []) (topQ P [.tmp 2] .s R) (mkE 38 lz_again_l1 (s_0, ())) w :=
  pc_cut (T := lz_again_0 R s_0 w) (l := lz_again_l2) (F := fun (x : Bs × Addr × Int × Unit) => lz_again_1 R x.1 x.2.1 x.2.2.1) hmix 4 (mkE_len ..) (by kernel_rfl) (fun x w h => lz_again_1_ok R x.1 x.2.1 x.2.2.1 w h) (by kernel_rfl) h
theorem lz_again_call (R : Bs → World → Prop) (s_0 : Bs) (w : World) (h : lz_again_0 R s_0 w) : mcall P n_lz_again [(.string ⟨s_0.toArray⟩)] .s R w :=
  pc_top (T := (lz_again_0 R s_0) w) (l := lz_again_l1) (F := fun (x : Bs × Unit) => lz_again_0 R x.1) (n := 38) (c := lz_again_B) Tryz.func20 rfl (by kernel_rfl) (by kernel_rfl) (by kernel_rfl) (fun x w h => lz_again_0_ok R x.1 w h) (by kernel_rfl) h
end Go.Proofs.YtegjokkkdkaphaaGreatDoor
