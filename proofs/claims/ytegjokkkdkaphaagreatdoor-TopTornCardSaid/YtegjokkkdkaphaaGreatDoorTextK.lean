/- Short texts of functions of the program, each with the proof that a call comes to it. No condition. -/
import Derived.Test.YtegjokkkdkaphaaGreatDoorNames
set_option linter.unusedVariables false
set_option linter.unusedSimpArgs false
namespace Go.Proofs.YtegjokkkdkaphaaGreatDoor
open Go Go.W
set_option maxRecDepth 100000
/- slices.insertionSortOrdered[string] -/
noncomputable abbrev slices_insertionSortOrdered_string_B : Code := (Tryz.f139.body).getD .skip
abbrev slices_insertionSortOrdered_string_l1 : Slots := [(0, .sl), (1, I), (2, I)]
abbrev slices_insertionSortOrdered_string_l2 : Slots := [(6, I)]
abbrev slices_insertionSortOrdered_string_l3 : Slots := [(0, .sl), (1, I), (2, I)]
abbrev slices_insertionSortOrdered_string_l4 : Slots := [(0, .sl), (1, I), (2, I), (6, I)]
abbrev slices_insertionSortOrdered_string_l5 : Slots := [(0, .sl), (1, I), (2, I), (6, I)]
def slices_insertionSortOrdered_string_4 (c1 : (Int × Unit) → (Sl × Int × Int × Unit) → World → Prop) (R : Unit → World → Prop) (data_0 : Sl) (a_1 : Int) (b_2 : Int) (i_6 : Int) : World → Prop :=
 c1 (w64 (i_6 + 1), ()) (data_0, a_1, b_2, ())
abbrev slices_insertionSortOrdered_string_l6 : Slots := [(0, .sl), (1, I), (2, I), (6, I)]
abbrev slices_insertionSortOrdered_string_l7 : Slots := [(7, I)]
abbrev slices_insertionSortOrdered_string_l8 : Slots := [(0, .sl), (1, I), (2, I), (6, I)]
def slices_insertionSortOrdered_string_7 (c2 : (Int × Unit) → (Sl × Int × Int × Int × Unit) → World → Prop) (c1 : (Int × Unit) → (Sl × Int × Int × Unit) → World → Prop) (R : Unit → World → Prop) (j_7 : Int) (data_0 : Sl) (a_1 : Int) (b_2 : Int) (i_6 : Int) : World → Prop :=
 mdraw <|
 mif (decide (j_7 > a_1))
 (ixa P t_sl_string (Sl.v data_0) j_7 fun (x1 : Addr) =>
 ld P t_string x1 .s fun (x2 : Bs) =>
 ixa P t_sl_string (Sl.v data_0) (w64 (j_7 - 1)) fun (x3 : Addr) =>
 ld P t_string x3 .s fun (x4 : Bs) =>
 mcall P n_cmp_Less_string [(.string ⟨x2.toArray⟩), (.string ⟨x4.toArray⟩)] .b fun (x5 : Bool) =>
 mif x5
 (mdraw <|
 ixa P t_sl_string (Sl.v data_0) (w64 (j_7 - 1)) fun (x6 : Addr) =>
 ld P t_string x6 .s fun (x7 : Bs) =>
 ixa P t_sl_string (Sl.v data_0) j_7 fun (x8 : Addr) =>
 ld P t_string x8 .s fun (x9 : Bs) =>
 ixa P t_sl_string (Sl.v data_0) j_7 fun (x10 : Addr) =>
 sto P t_string x10 .s x7 <|
 ixa P t_sl_string (Sl.v data_0) (w64 (j_7 - 1)) fun (x11 : Addr) =>
 sto P t_string x11 .s x9 <|
 c2 (w64 (j_7 - 1), ()) (data_0, a_1, b_2, i_6, ()))
 (slices_insertionSortOrdered_string_4 c1 R data_0 a_1 b_2 i_6))
 (slices_insertionSortOrdered_string_4 c1 R data_0 a_1 b_2 i_6)
def slices_insertionSortOrdered_string_6 (c1 : (Int × Unit) → (Sl × Int × Int × Unit) → World → Prop) (R : Unit → World → Prop) (j_7 : Int) (data_0 : Sl) (a_1 : Int) (b_2 : Int) (i_6 : Int) : World → Prop :=
 W.Loop (data_0, a_1, b_2, i_6, ()) (fun (c2 : (Int × Unit) → (Sl × Int × Int × Int × Unit) → World → Prop) (s : Int × Unit) => slices_insertionSortOrdered_string_7 c2 c1 R s.1 data_0 a_1 b_2 i_6) (j_7, ())
def slices_insertionSortOrdered_string_5 (c1 : (Int × Unit) → (Sl × Int × Int × Unit) → World → Prop) (R : Unit → World → Prop) (data_0 : Sl) (a_1 : Int) (b_2 : Int) (i_6 : Int) : World → Prop :=
 slices_insertionSortOrdered_string_6 c1 R i_6 data_0 a_1 b_2 i_6
def slices_insertionSortOrdered_string_3 (c1 : (Int × Unit) → (Sl × Int × Int × Unit) → World → Prop) (R : Unit → World → Prop) (data_0 : Sl) (a_1 : Int) (b_2 : Int) (i_6 : Int) : World → Prop :=
 slices_insertionSortOrdered_string_5 c1 R data_0 a_1 b_2 i_6
def slices_insertionSortOrdered_string_2 (c1 : (Int × Unit) → (Sl × Int × Int × Unit) → World → Prop) (R : Unit → World → Prop) (i_6 : Int) (data_0 : Sl) (a_1 : Int) (b_2 : Int) : World → Prop :=
 mif (decide (i_6 < b_2))
 (slices_insertionSortOrdered_string_3 c1 R data_0 a_1 b_2 i_6)
 (R (()))
def slices_insertionSortOrdered_string_1 (R : Unit → World → Prop) (i_6 : Int) (data_0 : Sl) (a_1 : Int) (b_2 : Int) : World → Prop :=
 W.Loop (data_0, a_1, b_2, ()) (fun (c1 : (Int × Unit) → (Sl × Int × Int × Unit) → World → Prop) (s : Int × Unit) => slices_insertionSortOrdered_string_2 c1 R s.1 data_0 a_1 b_2) (i_6, ())
def slices_insertionSortOrdered_string_0 (R : Unit → World → Prop) (data_0 : Sl) (a_1 : Int) (b_2 : Int) : World → Prop :=
 slices_insertionSortOrdered_string_1 R (w64 (a_1 + 1)) data_0 a_1 b_2
theorem slices_insertionSortOrdered_string_4_ok (c1 : (Int × Unit) → (Sl × Int × Int × Unit) → World → Prop) (R : Unit → World → Prop) (data_0 : Sl) (a_1 : Int) (b_2 : Int) (i_6 : Int) (w : World) (h : slices_insertionSortOrdered_string_4 c1 R data_0 a_1 b_2 i_6 w) : WPC P 49 [] (Code.at slices_insertionSortOrdered_string_B [.snd, .blk, .blk, .snd, .snd]) (thenQ (fun env => getE env slices_insertionSortOrdered_string_l2 fun (s : Int × Unit) => getE env slices_insertionSortOrdered_string_l3 (c1 s)) (blockQ 0 ((topQ P [] (.tup []) R) .normal) (topQ P [] (.tup []) R))) (mkE 49 slices_insertionSortOrdered_string_l5 (data_0, a_1, b_2, i_6, ())) w :=
  pc_end (T := slices_insertionSortOrdered_string_4 c1 R data_0 a_1 b_2 i_6 w) hmix (by kernel_rfl) h
theorem slices_insertionSortOrdered_string_7_ok (c2 : (Int × Unit) → (Sl × Int × Int × Int × Unit) → World → Prop) (c1 : (Int × Unit) → (Sl × Int × Int × Unit) → World → Prop) (R : Unit → World → Prop) (j_7 : Int) (data_0 : Sl) (a_1 : Int) (b_2 : Int) (i_6 : Int) (w : World) (h : slices_insertionSortOrdered_string_7 c2 c1 R j_7 data_0 a_1 b_2 i_6 w) : WPC P 49 [] (Code.at slices_insertionSortOrdered_string_B [.snd, .blk, .blk, .snd, .fst, .blk, .snd, .blk, .blk]) (thenQ (fun env => getE env slices_insertionSortOrdered_string_l7 fun (s : Int × Unit) => getE env slices_insertionSortOrdered_string_l8 (c2 s)) (blockQ 2 ((blockQ 1 ((thenQ (fun env => getE env slices_insertionSortOrdered_string_l5 fun (x : Sl × Int × Int × Int × Unit) => slices_insertionSortOrdered_string_4 c1 R x.1 x.2.1 x.2.2.1 x.2.2.2.1) (thenQ (fun env => getE env slices_insertionSortOrdered_string_l2 fun (s : Int × Unit) => getE env slices_insertionSortOrdered_string_l3 (c1 s)) (blockQ 0 ((topQ P [] (.tup []) R) .normal) (topQ P [] (.tup []) R)))) .normal) (thenQ (fun env => getE env slices_insertionSortOrdered_string_l5 fun (x : Sl × Int × Int × Int × Unit) => slices_insertionSortOrdered_string_4 c1 R x.1 x.2.1 x.2.2.1 x.2.2.2.1) (thenQ (fun env => getE env slices_insertionSortOrdered_string_l2 fun (s : Int × Unit) => getE env slices_insertionSortOrdered_string_l3 (c1 s)) (blockQ 0 ((topQ P [] (.tup []) R) .normal) (topQ P [] (.tup []) R))))) .normal) (blockQ 1 ((thenQ (fun env => getE env slices_insertionSortOrdered_string_l5 fun (x : Sl × Int × Int × Int × Unit) => slices_insertionSortOrdered_string_4 c1 R x.1 x.2.1 x.2.2.1 x.2.2.2.1) (thenQ (fun env => getE env slices_insertionSortOrdered_string_l2 fun (s : Int × Unit) => getE env slices_insertionSortOrdered_string_l3 (c1 s)) (blockQ 0 ((topQ P [] (.tup []) R) .normal) (topQ P [] (.tup []) R)))) .normal) (thenQ (fun env => getE env slices_insertionSortOrdered_string_l5 fun (x : Sl × Int × Int × Int × Unit) => slices_insertionSortOrdered_string_4 c1 R x.1 x.2.1 x.2.2.1 x.2.2.2.1) (thenQ (fun env => getE env slices_insertionSortOrdered_string_l2 fun (s : Int × Unit) => getE env slices_insertionSortOrdered_string_l3 (c1 s)) (blockQ 0 ((topQ P [] (.tup []) R) .normal) (topQ P [] (.tup []) R))))))) (mkE2 49 slices_insertionSortOrdered_string_l7 slices_insertionSortOrdered_string_l8 (j_7, ()) (data_0, a_1, b_2, i_6, ())) w :=
  pc_end (T := slices_insertionSortOrdered_string_7 c2 c1 R j_7 data_0 a_1 b_2 i_6 w) hmix (by kernel_rfl) h
theorem slices_insertionSortOrdered_string_6_ok (c1 : (Int × Unit) → (Sl × Int × Int × Unit) → World → Prop) (R : Unit → World → Prop) (j_7 : Int) (data_0 : Sl) (a_1 : Int) (b_2 : Int) (i_6 : Int) (w : World) (h : slices_insertionSortOrdered_string_6 c1 R j_7 data_0 a_1 b_2 i_6 w) : WPC P 49 [] (Code.at slices_insertionSortOrdered_string_B [.snd, .blk, .blk, .snd, .fst, .blk, .snd]) (blockQ 1 ((thenQ (fun env => getE env slices_insertionSortOrdered_string_l5 fun (x : Sl × Int × Int × Int × Unit) => slices_insertionSortOrdered_string_4 c1 R x.1 x.2.1 x.2.2.1 x.2.2.2.1) (thenQ (fun env => getE env slices_insertionSortOrdered_string_l2 fun (s : Int × Unit) => getE env slices_insertionSortOrdered_string_l3 (c1 s)) (blockQ 0 ((topQ P [] (.tup []) R) .normal) (topQ P [] (.tup []) R)))) .normal) (thenQ (fun env => getE env slices_insertionSortOrdered_string_l5 fun (x : Sl × Int × Int × Int × Unit) => slices_insertionSortOrdered_string_4 c1 R x.1 x.2.1 x.2.2.1 x.2.2.2.1) (thenQ (fun env => getE env slices_insertionSortOrdered_string_l2 fun (s : Int × Unit) => getE env slices_insertionSortOrdered_string_l3 (c1 s)) (blockQ 0 ((topQ P [] (.tup []) R) .normal) (topQ P [] (.tup []) R))))) (mkE2 49 slices_insertionSortOrdered_string_l7 slices_insertionSortOrdered_string_l8 (j_7, ()) (data_0, a_1, b_2, i_6, ())) w :=
  pc_loopE (l := slices_insertionSortOrdered_string_l7) (l' := slices_insertionSortOrdered_string_l8) (body := fun (c2 : (Int × Unit) → (Sl × Int × Int × Int × Unit) → World → Prop) (s : Int × Unit) => slices_insertionSortOrdered_string_7 c2 c1 R s.1 data_0 a_1 b_2 i_6) (id := 2) (b := (Code.at slices_insertionSortOrdered_string_B [.snd, .blk, .blk, .snd, .fst, .blk, .snd, .blk, .blk])) (by kernel_rfl) (fun c2 s w h => slices_insertionSortOrdered_string_7_ok c2 c1 R s.1 data_0 a_1 b_2 i_6 w h) h
theorem slices_insertionSortOrdered_string_5_ok (c1 : (Int × Unit) → (Sl × Int × Int × Unit) → World → Prop) (R : Unit → World → Prop) (data_0 : Sl) (a_1 : Int) (b_2 : Int) (i_6 : Int) (w : World) (h : slices_insertionSortOrdered_string_5 c1 R data_0 a_1 b_2 i_6 w) : WPC P 49 [] (Code.at slices_insertionSortOrdered_string_B [.snd, .blk, .blk, .snd, .fst, .blk]) (blockQ 1 ((thenQ (fun env => getE env slices_insertionSortOrdered_string_l5 fun (x : Sl × Int × Int × Int × Unit) => slices_insertionSortOrdered_string_4 c1 R x.1 x.2.1 x.2.2.1 x.2.2.2.1) (thenQ (fun env => getE env slices_insertionSortOrdered_string_l2 fun (s : Int × Unit) => getE env slices_insertionSortOrdered_string_l3 (c1 s)) (blockQ 0 ((topQ P [] (.tup []) R) .normal) (topQ P [] (.tup []) R)))) .normal) (thenQ (fun env => getE env slices_insertionSortOrdered_string_l5 fun (x : Sl × Int × Int × Int × Unit) => slices_insertionSortOrdered_string_4 c1 R x.1 x.2.1 x.2.2.1 x.2.2.2.1) (thenQ (fun env => getE env slices_insertionSortOrdered_string_l2 fun (s : Int × Unit) => getE env slices_insertionSortOrdered_string_l3 (c1 s)) (blockQ 0 ((topQ P [] (.tup []) R) .normal) (topQ P [] (.tup []) R))))) (mkE 49 slices_insertionSortOrdered_string_l6 (data_0, a_1, b_2, i_6, ())) w :=
  pc_cut2 (T := slices_insertionSortOrdered_string_5 c1 R data_0 a_1 b_2 i_6 w) (l := slices_insertionSortOrdered_string_l7) (l' := slices_insertionSortOrdered_string_l8) (F := fun (x : Int × Unit) (y : Sl × Int × Int × Int × Unit) => slices_insertionSortOrdered_string_6 c1 R x.1 y.1 y.2.1 y.2.2.1 y.2.2.2.1) hmix 1 (mkE_len ..) (by kernel_rfl) (fun x y w h => slices_insertionSortOrdered_string_6_ok c1 R x.1 y.1 y.2.1 y.2.2.1 y.2.2.2.1 w h) (by kernel_rfl) h
theorem slices_insertionSortOrdered_string_3_ok (c1 : (Int × Unit) → (Sl × Int × Int × Unit) → World → Prop) (R : Unit → World → Prop) (data_0 : Sl) (a_1 : Int) (b_2 : Int) (i_6 : Int) (w : World) (h : slices_insertionSortOrdered_string_3 c1 R data_0 a_1 b_2 i_6 w) : WPC P 49 [] (Code.at slices_insertionSortOrdered_string_B [.snd, .blk, .blk, .snd]) (thenQ (fun env => getE env slices_insertionSortOrdered_string_l2 fun (s : Int × Unit) => getE env slices_insertionSortOrdered_string_l3 (c1 s)) (blockQ 0 ((topQ P [] (.tup []) R) .normal) (topQ P [] (.tup []) R))) (mkE 49 slices_insertionSortOrdered_string_l4 (data_0, a_1, b_2, i_6, ())) w :=
  pc_seq (l := slices_insertionSortOrdered_string_l5) (F := fun (x : Sl × Int × Int × Int × Unit) => slices_insertionSortOrdered_string_4 c1 R x.1 x.2.1 x.2.2.1 x.2.2.2.1) (a := (Code.at slices_insertionSortOrdered_string_B [.snd, .blk, .blk, .snd, .fst])) (b := (Code.at slices_insertionSortOrdered_string_B [.snd, .blk, .blk, .snd, .snd])) (by kernel_rfl) (pc_block (c := (Code.at slices_insertionSortOrdered_string_B [.snd, .blk, .blk, .snd, .fst, .blk])) (id := 1) (by kernel_rfl) (pc_cut (T := (slices_insertionSortOrdered_string_5 c1 R data_0 a_1 b_2 i_6) w) (l := slices_insertionSortOrdered_string_l6) (F := fun (x : Sl × Int × Int × Int × Unit) => slices_insertionSortOrdered_string_5 c1 R x.1 x.2.1 x.2.2.1 x.2.2.2.1) (c := (Code.at slices_insertionSortOrdered_string_B [.snd, .blk, .blk, .snd, .fst, .blk])) hmix 0 (mkE_len ..) (by kernel_rfl) (fun x w h => slices_insertionSortOrdered_string_5_ok c1 R x.1 x.2.1 x.2.2.1 x.2.2.2.1 w h) (by kernel_rfl) h)) (fun x w h => slices_insertionSortOrdered_string_4_ok c1 R x.1 x.2.1 x.2.2.1 x.2.2.2.1 w h)
theorem slices_insertionSortOrdered_string_2_ok (c1 : (Int × Unit) → (Sl × Int × Int × Unit) → World → Prop) (R : Unit → World → Prop) (i_6 : Int) (data_0 : Sl) (a_1 : Int) (b_2 : Int) (w : World) (h : slices_insertionSortOrdered_string_2 c1 R i_6 data_0 a_1 b_2 w) : WPC P 49 [] (Code.at slices_insertionSortOrdered_string_B [.snd, .blk, .blk]) (thenQ (fun env => getE env slices_insertionSortOrdered_string_l2 fun (s : Int × Unit) => getE env slices_insertionSortOrdered_string_l3 (c1 s)) (blockQ 0 ((topQ P [] (.tup []) R) .normal) (topQ P [] (.tup []) R))) (mkE2 49 slices_insertionSortOrdered_string_l2 slices_insertionSortOrdered_string_l3 (i_6, ()) (data_0, a_1, b_2, ())) w :=
  pc_cut (T := slices_insertionSortOrdered_string_2 c1 R i_6 data_0 a_1 b_2 w) (l := slices_insertionSortOrdered_string_l4) (F := fun (x : Sl × Int × Int × Int × Unit) => slices_insertionSortOrdered_string_3 c1 R x.1 x.2.1 x.2.2.1 x.2.2.2.1) hmix 1 (mkE2_len ..) (by kernel_rfl) (fun x w h => slices_insertionSortOrdered_string_3_ok c1 R x.1 x.2.1 x.2.2.1 x.2.2.2.1 w h) (by kernel_rfl) h
theorem slices_insertionSortOrdered_string_1_ok (R : Unit → World → Prop) (i_6 : Int) (data_0 : Sl) (a_1 : Int) (b_2 : Int) (w : World) (h : slices_insertionSortOrdered_string_1 R i_6 data_0 a_1 b_2 w) : WPC P 49 [] (Code.at slices_insertionSortOrdered_string_B [.snd]) (topQ P [] (.tup []) R) (mkE2 49 slices_insertionSortOrdered_string_l2 slices_insertionSortOrdered_string_l3 (i_6, ()) (data_0, a_1, b_2, ())) w :=
  pc_loopE (l := slices_insertionSortOrdered_string_l2) (l' := slices_insertionSortOrdered_string_l3) (body := fun (c1 : (Int × Unit) → (Sl × Int × Int × Unit) → World → Prop) (s : Int × Unit) => slices_insertionSortOrdered_string_2 c1 R s.1 data_0 a_1 b_2) (id := 0) (b := (Code.at slices_insertionSortOrdered_string_B [.snd, .blk, .blk])) (by kernel_rfl) (fun c1 s w h => slices_insertionSortOrdered_string_2_ok c1 R s.1 data_0 a_1 b_2 w h) h
theorem slices_insertionSortOrdered_string_0_ok (R : Unit → World → Prop) (data_0 : Sl) (a_1 : Int) (b_2 : Int) (w : World) (h : slices_insertionSortOrdered_string_0 R data_0 a_1 b_2 w) : WPC P 49 [] (Code.at slices_insertionSortOrdered_string_B []) (topQ P [] (.tup []) R) (mkE 49 slices_insertionSortOrdered_string_l1 (data_0, a_1, b_2, ())) w :=
  pc_cut2 (T := slices_insertionSortOrdered_string_0 R data_0 a_1 b_2 w) (l := slices_insertionSortOrdered_string_l2) (l' := slices_insertionSortOrdered_string_l3) (F := fun (x : Int × Unit) (y : Sl × Int × Int × Unit) => slices_insertionSortOrdered_string_1 R x.1 y.1 y.2.1 y.2.2.1) hmix 1 (mkE_len ..) (by kernel_rfl) (fun x y w h => slices_insertionSortOrdered_string_1_ok R x.1 y.1 y.2.1 y.2.2.1 w h) (by kernel_rfl) h
theorem slices_insertionSortOrdered_string_call (R : Unit → World → Prop) (data_0 : Sl) (a_1 : Int) (b_2 : Int) (w : World) (h : slices_insertionSortOrdered_string_0 R data_0 a_1 b_2 w) : mcall P n_slices_insertionSortOrdered_string [(Sl.v data_0), (.int .i64 a_1), (.int .i64 b_2)] (.tup []) R w :=
  pc_top (T := (slices_insertionSortOrdered_string_0 R data_0 a_1 b_2) w) (l := slices_insertionSortOrdered_string_l1) (F := fun (x : Sl × Int × Int × Unit) => slices_insertionSortOrdered_string_0 R x.1 x.2.1 x.2.2.1) (n := 49) (c := slices_insertionSortOrdered_string_B) Tryz.func139 rfl (by kernel_rfl) (by kernel_rfl) (by kernel_rfl) (fun x w h => slices_insertionSortOrdered_string_0_ok R x.1 x.2.1 x.2.2.1 w h) (by kernel_rfl) h
/- math bits.Len64 -/
noncomputable abbrev math_bits_Len64_B : Code := (Tryz.f149.body).getD .skip
abbrev math_bits_Len64_l1 : Slots := [(0, (.i .u64))]
abbrev math_bits_Len64_l2 : Slots := [(0, (.i .u64)), (2, I)]
abbrev math_bits_Len64_l3 : Slots := [(0, (.i .u64)), (2, I)]
abbrev math_bits_Len64_l4 : Slots := [(0, (.i .u64)), (2, I)]
def math_bits_Len64_3 (R : Int → World → Prop) (x_0 : Int) (n_2 : Int) : World → Prop :=
 mrd P (Instr.index t_string (.string ⟨[0, 1, 2, 2, 3, 3, 3, 3, 4, 4, 4, 4, 4, 4, 4, 4, 5, 5, 5, 5, 5, 5, 5, 5, 5, 5, 5, 5, 5, 5, 5, 5, 6, 6, 6, 6, 6, 6, 6, 6, 6, 6, 6, 6, 6, 6, 6, 6, 6, 6, 6, 6, 6, 6, 6, 6, 6, 6, 6, 6, 6, 6, 6, 6, 7, 7, 7, 7, 7, 7, 7, 7, 7, 7, 7, 7, 7, 7, 7, 7, 7, 7, 7, 7, 7, 7, 7, 7, 7, 7, 7, 7, 7, 7, 7, 7, 7, 7, 7, 7, 7, 7, 7, 7, 7, 7, 7, 7, 7, 7, 7, 7, 7, 7, 7, 7, 7, 7, 7, 7, 7, 7, 7, 7, 7, 7, 7, 7, 8, 8, 8, 8, 8, 8, 8, 8, 8, 8, 8, 8, 8, 8, 8, 8, 8, 8, 8, 8, 8, 8, 8, 8, 8, 8, 8, 8, 8, 8, 8, 8, 8, 8, 8, 8, 8, 8, 8, 8, 8, 8, 8, 8, 8, 8, 8, 8, 8, 8, 8, 8, 8, 8, 8, 8, 8, 8, 8, 8, 8, 8, 8, 8, 8, 8, 8, 8, 8, 8, 8, 8, 8, 8, 8, 8, 8, 8, 8, 8, 8, 8, 8, 8, 8, 8, 8, 8, 8, 8, 8, 8, 8, 8, 8, 8, 8, 8, 8, 8, 8, 8, 8, 8, 8, 8, 8, 8, 8, 8, 8, 8, 8, 8, 8, 8, 8, 8, 8, 8, 8, 8, 8, 8, 8, 8, 8, 8].toArray⟩) (.int .u8 (wr8 x_0))) (.i .u8) fun (x1 : Int) =>
 R (w64 (n_2 + (w64 x1)))
def math_bits_Len64_2 (R : Int → World → Prop) (x_0 : Int) (n_2 : Int) : World → Prop :=
 mif (decide (x_0 ≥ 256))
 (math_bits_Len64_3 R (ishr .u64 x_0 8) (w64 (n_2 + 8)))
 (math_bits_Len64_3 R x_0 n_2)
def math_bits_Len64_1 (R : Int → World → Prop) (x_0 : Int) (n_2 : Int) : World → Prop :=
 mif (decide (x_0 ≥ 65536))
 (math_bits_Len64_2 R (ishr .u64 x_0 16) (w64 (n_2 + 16)))
 (math_bits_Len64_2 R x_0 n_2)
def math_bits_Len64_0 (R : Int → World → Prop) (x_0 : Int) : World → Prop :=
 mif (decide (x_0 ≥ 4294967296))
 (math_bits_Len64_1 R (ishr .u64 x_0 32) 32)
 (math_bits_Len64_1 R x_0 0)
theorem math_bits_Len64_3_ok (R : Int → World → Prop) (x_0 : Int) (n_2 : Int) (w : World) (h : math_bits_Len64_3 R x_0 n_2 w) : WPC P 25 [] (Code.at math_bits_Len64_B [.snd, .snd, .snd, .snd]) (topQ P [.tmp 2] I R) (mkE 25 math_bits_Len64_l4 (x_0, n_2, ())) w :=
  pc_end (T := math_bits_Len64_3 R x_0 n_2 w) hmix (by kernel_rfl) h
theorem math_bits_Len64_2_ok (R : Int → World → Prop) (x_0 : Int) (n_2 : Int) (w : World) (h : math_bits_Len64_2 R x_0 n_2 w) : WPC P 25 [] (Code.at math_bits_Len64_B [.snd, .snd, .snd]) (topQ P [.tmp 2] I R) (mkE 25 math_bits_Len64_l3 (x_0, n_2, ())) w :=
  pc_cut (T := math_bits_Len64_2 R x_0 n_2 w) (l := math_bits_Len64_l4) (F := fun (x : Int × Int × Unit) => math_bits_Len64_3 R x.1 x.2.1) hmix 1 (mkE_len ..) (by kernel_rfl) (fun x w h => math_bits_Len64_3_ok R x.1 x.2.1 w h) (by kernel_rfl) h
theorem math_bits_Len64_1_ok (R : Int → World → Prop) (x_0 : Int) (n_2 : Int) (w : World) (h : math_bits_Len64_1 R x_0 n_2 w) : WPC P 25 [] (Code.at math_bits_Len64_B [.snd, .snd]) (topQ P [.tmp 2] I R) (mkE 25 math_bits_Len64_l2 (x_0, n_2, ())) w :=
  pc_cut (T := math_bits_Len64_1 R x_0 n_2 w) (l := math_bits_Len64_l3) (F := fun (x : Int × Int × Unit) => math_bits_Len64_2 R x.1 x.2.1) hmix 1 (mkE_len ..) (by kernel_rfl) (fun x w h => math_bits_Len64_2_ok R x.1 x.2.1 w h) (by kernel_rfl) h
theorem math_bits_Len64_0_ok (R : Int → World → Prop) (x_0 : Int) (w : World) (h : math_bits_Len64_0 R x_0 w) : WPC P 25 [] (Code.at math_bits_Len64_B []) (topQ P [.tmp 2] I R) (mkE 25 math_bits_Len64_l1 (x_0, ())) w :=
  pc_cut (T := math_bits_Len64_0 R x_0 w) (l := math_bits_Len64_l2) (F := fun (x : Int × Int × Unit) => math_bits_Len64_1 R x.1 x.2.1) hmix 2 (mkE_len ..) (by kernel_rfl) (fun x w h => math_bits_Len64_1_ok R x.1 x.2.1 w h) (by kernel_rfl) h
theorem math_bits_Len64_call (R : Int → World → Prop) (x_0 : Int) (w : World) (h : math_bits_Len64_0 R x_0 w) : mcall P n_math_bits_Len64 [(.int .u64 x_0)] I R w :=
  pc_top (T := (math_bits_Len64_0 R x_0) w) (l := math_bits_Len64_l1) (F := fun (x : Int × Unit) => math_bits_Len64_0 R x.1) (n := 25) (c := math_bits_Len64_B) Tryz.func149 rfl (by kernel_rfl) (by kernel_rfl) (by kernel_rfl) (fun x w h => math_bits_Len64_0_ok R x.1 w h) (by kernel_rfl) h
end Go.Proofs.YtegjokkkdkaphaaGreatDoor
