/- Short texts of functions of the program, each with the proof that a call comes to it. No condition. -/
import Derived.Test.YtegjokkkdkaphaaGreatDoorNames
set_option linter.unusedVariables false
set_option linter.unusedSimpArgs false
namespace Go.Proofs.YtegjokkkdkaphaaGreatDoor
open Go Go.W
set_option maxRecDepth 100000
/- slices.Collect[string] -/
noncomputable abbrev slices_Collect_string_B : Code := (Tryz.f116.body).getD .skip
abbrev slices_Collect_string_l1 : Slots := [(0, .v)]
def slices_Collect_string_0 (R : Sl → World → Prop) (seq_0 : Value) : World → Prop :=
 mcall P n_slices_AppendSeq_sl_string_string [(Sl.v ⟨none, 0, 0⟩), seq_0] .sl fun (x1 : Sl) =>
 R x1
theorem slices_Collect_string_0_ok (R : Sl → World → Prop) (seq_0 : Value) (w : World) (h : slices_Collect_string_0 R seq_0 w) : WPC P 5 [] (Code.at slices_Collect_string_B []) (topQ P [.tmp 2] .sl R) (mkE 5 slices_Collect_string_l1 (seq_0, ())) w :=
  pc_end (T := slices_Collect_string_0 R seq_0 w) hmix (by kernel_rfl) h
theorem slices_Collect_string_call (R : Sl → World → Prop) (seq_0 : Value) (w : World) (h : slices_Collect_string_0 R seq_0 w) : mcall P n_slices_Collect_string [seq_0] .sl R w :=
  pc_top (T := (slices_Collect_string_0 R seq_0) w) (l := slices_Collect_string_l1) (F := fun (x : Value × Unit) => slices_Collect_string_0 R x.1) (n := 5) (c := slices_Collect_string_B) Tryz.func116 rfl (by kernel_rfl) (by kernel_rfl) (by kernel_rfl) (fun x w h => slices_Collect_string_0_ok R x.1 w h) (by kernel_rfl) h
/- slices.Sort[[]string,string] -/
noncomputable abbrev slices_Sort_sl_string_string_B : Code := (Tryz.f117.body).getD .skip
abbrev slices_Sort_sl_string_string_l1 : Slots := [(0, .sl)]
def slices_Sort_sl_string_string_0 (R : Unit → World → Prop) (x_0 : Sl) : World → Prop :=
 mcall P n_math_bits_Len [(.int .u64 (wr64 (x_0.len : Int)))] I fun (x1 : Int) =>
 mcall P n_slices_pdqsortOrdered_string [(Sl.v x_0), (.int .i64 0), (.int .i64 (x_0.len : Int)), (.int .i64 x1)] (.tup []) fun (x2 : Unit) =>
 R (())
theorem slices_Sort_sl_string_string_0_ok (R : Unit → World → Prop) (x_0 : Sl) (w : World) (h : slices_Sort_sl_string_string_0 R x_0 w) : WPC P 11 [] (Code.at slices_Sort_sl_string_string_B []) (topQ P [] (.tup []) R) (mkE 11 slices_Sort_sl_string_string_l1 (x_0, ())) w :=
  pc_end (T := slices_Sort_sl_string_string_0 R x_0 w) hmix (by kernel_rfl) h
theorem slices_Sort_sl_string_string_call (R : Unit → World → Prop) (x_0 : Sl) (w : World) (h : slices_Sort_sl_string_string_0 R x_0 w) : mcall P n_slices_Sort_sl_string_string [(Sl.v x_0)] (.tup []) R w :=
  pc_top (T := (slices_Sort_sl_string_string_0 R x_0) w) (l := slices_Sort_sl_string_string_l1) (F := fun (x : Sl × Unit) => slices_Sort_sl_string_string_0 R x.1) (n := 11) (c := slices_Sort_sl_string_string_B) Tryz.func117 rfl (by kernel_rfl) (by kernel_rfl) (by kernel_rfl) (fun x w h => slices_Sort_sl_string_string_0_ok R x.1 w h) (by kernel_rfl) h
/- maps.Keys[map[string]*headgate disk.file,string,*headgate disk.file]$1 -/
noncomputable abbrev maps_Keys_map_string_disk_file_string_disk_file__c1_B : Code := (Tryz.f118.body).getD .skip
abbrev maps_Keys_map_string_disk_file_string_disk_file__c1_l1 : Slots := [(0, .v), (1, .ad)]
abbrev maps_Keys_map_string_disk_file_string_disk_file__c1_l2 : Slots := []
abbrev maps_Keys_map_string_disk_file_string_disk_file__c1_l3 : Slots := [(0, .v), (5, .v)]
def maps_Keys_map_string_disk_file_string_disk_file__c1_2 (c1 : Unit → (Value × Value × Unit) → World → Prop) (R : Unit → World → Prop) (yield_0 : Value) (v5 : Value) : World → Prop :=
 mnxt P (Instr.next v5 false t_unit)
 (R (())) fun u3 u4 =>
 ment P (Instr.entry v5) fun u5 u6 =>
 mcast u5 .s fun (x7 : Bs) =>
 mdyn P yield_0 [.string ⟨x7.toArray⟩] .b fun (x8 : Bool) =>
 mif (!x8)
 (R (()))
 (c1 (()) (yield_0, v5, ()))
def maps_Keys_map_string_disk_file_string_disk_file__c1_1 (R : Unit → World → Prop) (yield_0 : Value) (v5 : Value) : World → Prop :=
 W.Loop (yield_0, v5, ()) (fun (c1 : Unit → (Value × Value × Unit) → World → Prop) (s : Unit) => maps_Keys_map_string_disk_file_string_disk_file__c1_2 c1 R yield_0 v5) (())
def maps_Keys_map_string_disk_file_string_disk_file__c1_0 (R : Unit → World → Prop) (yield_0 : Value) (v1 : Addr) : World → Prop :=
 ld P t_map_string_ptr_disk_file v1 .m fun (x1 : Option Nat) =>
 mop P (Instr.range t_map_string_ptr_disk_file (.map x1)) .v fun (x2 : Value) =>
 maps_Keys_map_string_disk_file_string_disk_file__c1_1 R yield_0 x2
theorem maps_Keys_map_string_disk_file_string_disk_file__c1_2_ok (c1 : Unit → (Value × Value × Unit) → World → Prop) (R : Unit → World → Prop) (yield_0 : Value) (v5 : Value) (w : World) (h : maps_Keys_map_string_disk_file_string_disk_file__c1_2 c1 R yield_0 v5 w) : WPC P 14 [] (Code.at maps_Keys_map_string_disk_file_string_disk_file__c1_B [.snd, .blk, .blk]) (thenQ (fun env => getE env maps_Keys_map_string_disk_file_string_disk_file__c1_l2 fun (s : Unit) => getE env maps_Keys_map_string_disk_file_string_disk_file__c1_l3 (c1 s)) (blockQ 0 ((topQ P [] (.tup []) R) .normal) (topQ P [] (.tup []) R))) (mkE2 14 maps_Keys_map_string_disk_file_string_disk_file__c1_l2 maps_Keys_map_string_disk_file_string_disk_file__c1_l3 (()) (yield_0, v5, ())) w :=
  pc_end (T := maps_Keys_map_string_disk_file_string_disk_file__c1_2 c1 R yield_0 v5 w) hmix (by kernel_rfl) h
theorem maps_Keys_map_string_disk_file_string_disk_file__c1_1_ok (R : Unit → World → Prop) (yield_0 : Value) (v5 : Value) (w : World) (h : maps_Keys_map_string_disk_file_string_disk_file__c1_1 R yield_0 v5 w) : WPC P 14 [] (Code.at maps_Keys_map_string_disk_file_string_disk_file__c1_B [.snd]) (topQ P [] (.tup []) R) (mkE2 14 maps_Keys_map_string_disk_file_string_disk_file__c1_l2 maps_Keys_map_string_disk_file_string_disk_file__c1_l3 (()) (yield_0, v5, ())) w :=
  pc_loopE (l := maps_Keys_map_string_disk_file_string_disk_file__c1_l2) (l' := maps_Keys_map_string_disk_file_string_disk_file__c1_l3) (body := fun (c1 : Unit → (Value × Value × Unit) → World → Prop) (s : Unit) => maps_Keys_map_string_disk_file_string_disk_file__c1_2 c1 R yield_0 v5) (id := 0) (b := (Code.at maps_Keys_map_string_disk_file_string_disk_file__c1_B [.snd, .blk, .blk])) (by kernel_rfl) (fun c1 s w h => maps_Keys_map_string_disk_file_string_disk_file__c1_2_ok c1 R yield_0 v5 w h) h
theorem maps_Keys_map_string_disk_file_string_disk_file__c1_0_ok (R : Unit → World → Prop) (yield_0 : Value) (v1 : Addr) (w : World) (h : maps_Keys_map_string_disk_file_string_disk_file__c1_0 R yield_0 v1 w) : WPC P 14 [] (Code.at maps_Keys_map_string_disk_file_string_disk_file__c1_B []) (topQ P [] (.tup []) R) (mkE 14 maps_Keys_map_string_disk_file_string_disk_file__c1_l1 (yield_0, v1, ())) w :=
  pc_cut2 (T := maps_Keys_map_string_disk_file_string_disk_file__c1_0 R yield_0 v1 w) (l := maps_Keys_map_string_disk_file_string_disk_file__c1_l2) (l' := maps_Keys_map_string_disk_file_string_disk_file__c1_l3) (F := fun (x : Unit) (y : Value × Value × Unit) => maps_Keys_map_string_disk_file_string_disk_file__c1_1 R y.1 y.2.1) hmix 1 (mkE_len ..) (by kernel_rfl) (fun x y w h => maps_Keys_map_string_disk_file_string_disk_file__c1_1_ok R y.1 y.2.1 w h) (by kernel_rfl) h
theorem maps_Keys_map_string_disk_file_string_disk_file__c1_call (R : Unit → World → Prop) (yield_0 : Value) (v1 : Addr) (w : World) (h : maps_Keys_map_string_disk_file_string_disk_file__c1_0 R yield_0 v1 w) : mcall P n_maps_Keys_map_string_disk_file_string_disk_file__c1 [yield_0, .pointer (some v1)] (.tup []) R w :=
  pc_top (T := (maps_Keys_map_string_disk_file_string_disk_file__c1_0 R yield_0 v1) w) (l := maps_Keys_map_string_disk_file_string_disk_file__c1_l1) (F := fun (x : Value × Addr × Unit) => maps_Keys_map_string_disk_file_string_disk_file__c1_0 R x.1 x.2.1) (n := 14) (c := maps_Keys_map_string_disk_file_string_disk_file__c1_B) Tryz.func118 rfl (by kernel_rfl) (by kernel_rfl) (by kernel_rfl) (fun x w h => maps_Keys_map_string_disk_file_string_disk_file__c1_0_ok R x.1 x.2.1 w h) (by kernel_rfl) h
/- headgate disk.named -/
noncomputable abbrev disk_named_B : Code := (Tryz.f120.body).getD .skip
abbrev disk_named_l1 : Slots := [(0, .s)]
def disk_named_0 (R : Bool → World → Prop) (name_0 : Bs) : World → Prop :=
 mif (!(name_0 == []))
 (mif (decide ((name_0.length : Int) ≤ 24))
 (mcall P n_strings_Trim [(.string ⟨name_0.toArray⟩), (.string ⟨[97, 98, 99, 100, 101, 102, 103, 104, 105, 106, 107, 108, 109, 110, 111, 112, 113, 114, 115, 116, 117, 118, 119, 120, 121, 122, 48, 49, 50, 51, 52, 53, 54, 55, 56, 57, 46, 45].toArray⟩)] .s fun (x1 : Bs) =>
 R (x1 == []))
 (R false))
 (R false)
theorem disk_named_0_ok (R : Bool → World → Prop) (name_0 : Bs) (w : World) (h : disk_named_0 R name_0 w) : WPC P 15 [] (Code.at disk_named_B []) (topQ P [.tmp 2] .b R) (mkE 15 disk_named_l1 (name_0, ())) w :=
  pc_end (T := disk_named_0 R name_0 w) hmix (by kernel_rfl) h
theorem disk_named_call (R : Bool → World → Prop) (name_0 : Bs) (w : World) (h : disk_named_0 R name_0 w) : mcall P n_disk_named [(.string ⟨name_0.toArray⟩)] .b R w :=
  pc_top (T := (disk_named_0 R name_0) w) (l := disk_named_l1) (F := fun (x : Bs × Unit) => disk_named_0 R x.1) (n := 15) (c := disk_named_B) Tryz.func120 rfl (by kernel_rfl) (by kernel_rfl) (by kernel_rfl) (fun x w h => disk_named_0_ok R x.1 w h) (by kernel_rfl) h
/- (*headgate disk.Disk).burn -/
noncomputable abbrev disk_Disk_burn_B : Code := (Tryz.f121.body).getD .skip
abbrev disk_Disk_burn_l1 : Slots := [(0, .p)]
abbrev disk_Disk_burn_l2 : Slots := []
def disk_Disk_burn_1 (R : Bool → World → Prop) : World → Prop :=
 R true
def disk_Disk_burn_0 (R : Bool → World → Prop) (d_0 : Option Addr) : World → Prop :=
 mnil d_0 fun a1 =>
 ld P t_int (ad a1 2) I fun (x2 : Int) =>
 mif (x2 == 0)
 (mnil d_0 fun a3 =>
 sto P t_bool (ad a3 3) .b true <|
 R false)
 (mnil d_0 fun a4 =>
 ld P t_int (ad a4 2) I fun (x5 : Int) =>
 mif (decide (x5 > 0))
 (mnil d_0 fun a6 =>
 ld P t_int (ad a6 2) I fun (x7 : Int) =>
 mnil d_0 fun a8 =>
 sto P t_int (ad a8 2) I (w64 (x7 - 1)) <|
 disk_Disk_burn_1 R)
 (disk_Disk_burn_1 R))
theorem disk_Disk_burn_1_ok (R : Bool → World → Prop) (w : World) (h : disk_Disk_burn_1 R w) : WPC P 23 [] (Code.at disk_Disk_burn_B [.snd, .snd, .snd]) (topQ P [.tmp 2] .b R) (mkE 23 disk_Disk_burn_l2 (())) w :=
  pc_end (T := disk_Disk_burn_1 R w) hmix (by kernel_rfl) h
theorem disk_Disk_burn_0_ok (R : Bool → World → Prop) (d_0 : Option Addr) (w : World) (h : disk_Disk_burn_0 R d_0 w) : WPC P 23 [] (Code.at disk_Disk_burn_B []) (topQ P [.tmp 2] .b R) (mkE 23 disk_Disk_burn_l1 (d_0, ())) w :=
  pc_cut (T := disk_Disk_burn_0 R d_0 w) (l := disk_Disk_burn_l2) (F := fun (x : Unit) => disk_Disk_burn_1 R) hmix 3 (mkE_len ..) (by kernel_rfl) (fun x w h => disk_Disk_burn_1_ok R w h) (by kernel_rfl) h
theorem disk_Disk_burn_call (R : Bool → World → Prop) (d_0 : Option Addr) (w : World) (h : disk_Disk_burn_0 R d_0 w) : mcall P n_disk_Disk_burn [(.pointer d_0)] .b R w :=
  pc_top (T := (disk_Disk_burn_0 R d_0) w) (l := disk_Disk_burn_l1) (F := fun (x : Option Addr × Unit) => disk_Disk_burn_0 R x.1) (n := 23) (c := disk_Disk_burn_B) Tryz.func121 rfl (by kernel_rfl) (by kernel_rfl) (by kernel_rfl) (fun x w h => disk_Disk_burn_0_ok R x.1 w h) (by kernel_rfl) h
/- (*strings.asciiSet).contains -/
noncomputable abbrev strings_asciiSet_contains_B : Code := (Tryz.f126.body).getD .skip
abbrev strings_asciiSet_contains_l1 : Slots := [(0, .p), (1, (.i .u8))]
def strings_asciiSet_contains_0 (R : Bool → World → Prop) (as_0 : Option Addr) (c_1 : Int) : World → Prop :=
 mnil as_0 fun a1 =>
 mrd P (Instr.indexAt t_strings_asciiSet (.pointer (some a1)) (.int .u8 c_1)) .ad fun (x2 : Addr) =>
 ld P t_bool x2 .b fun (x3 : Bool) =>
 R x3
theorem strings_asciiSet_contains_0_ok (R : Bool → World → Prop) (as_0 : Option Addr) (c_1 : Int) (w : World) (h : strings_asciiSet_contains_0 R as_0 c_1 w) : WPC P 10 [] (Code.at strings_asciiSet_contains_B []) (topQ P [.tmp 4] .b R) (mkE 10 strings_asciiSet_contains_l1 (as_0, c_1, ())) w :=
  pc_end (T := strings_asciiSet_contains_0 R as_0 c_1 w) hmix (by kernel_rfl) h
theorem strings_asciiSet_contains_call (R : Bool → World → Prop) (as_0 : Option Addr) (c_1 : Int) (w : World) (h : strings_asciiSet_contains_0 R as_0 c_1 w) : mcall P n_strings_asciiSet_contains [(.pointer as_0), (.int .u8 c_1)] .b R w :=
  pc_top (T := (strings_asciiSet_contains_0 R as_0 c_1) w) (l := strings_asciiSet_contains_l1) (F := fun (x : Option Addr × Int × Unit) => strings_asciiSet_contains_0 R x.1 x.2.1) (n := 10) (c := strings_asciiSet_contains_B) Tryz.func126 rfl (by kernel_rfl) (by kernel_rfl) (by kernel_rfl) (fun x w h => strings_asciiSet_contains_0_ok R x.1 x.2.1 w h) (by kernel_rfl) h
/- slices.pdqsortOrdered[string] -/
noncomputable abbrev slices_pdqsortOrdered_string_B : Code := (Tryz.f131.body).getD .skip
abbrev slices_pdqsortOrdered_string_l1 : Slots := [(0, .sl), (1, I), (2, I), (3, I)]
abbrev slices_pdqsortOrdered_string_l2 : Slots := [(1, I), (2, I), (3, I), (8, .b), (9, .b)]
abbrev slices_pdqsortOrdered_string_l3 : Slots := [(0, .sl)]
def slices_pdqsortOrdered_string_2 (c1 : (Int × Int × Int × Bool × Bool × Unit) → (Sl × Unit) → World → Prop) (R : Unit → World → Prop) (a_1 : Int) (b_2 : Int) (limit_3 : Int) (wasBalanced_8 : Bool) (wasPartitioned_9 : Bool) (data_0 : Sl) : World → Prop :=
 mif (decide ((w64 (b_2 - a_1)) ≤ 12))
 (mcall P n_slices_insertionSortOrdered_string [(Sl.v data_0), (.int .i64 a_1), (.int .i64 b_2)] (.tup []) fun (x1 : Unit) =>
 R (()))
 (mif (limit_3 == 0)
 (mcall P n_slices_heapSortOrdered_string [(Sl.v data_0), (.int .i64 a_1), (.int .i64 b_2)] (.tup []) fun (x2 : Unit) =>
 R (()))
 (mif (!wasBalanced_8)
 (mcall P n_slices_breakPatternsOrdered_string [(Sl.v data_0), (.int .i64 a_1), (.int .i64 b_2)] (.tup []) fun (x3 : Unit) =>
 mcall P n_slices_choosePivotOrdered_string [(Sl.v data_0), (.int .i64 a_1), (.int .i64 b_2)] (.tup [I, I]) fun (x4 : Int × Int × Unit) =>
 mif (x4.2.1 == 2)
 (mcall P n_slices_reverseRangeOrdered_string [(Sl.v data_0), (.int .i64 a_1), (.int .i64 b_2)] (.tup []) fun (x5 : Unit) =>
 mif wasBalanced_8
 (mif wasPartitioned_9
 (mif (1 == 1)
 (mcall P n_slices_partialInsertionSortOrdered_string [(Sl.v data_0), (.int .i64 a_1), (.int .i64 b_2)] .b fun (x6 : Bool) =>
 mif x6
 (R (()))
 (mdraw <|
 mif (decide (a_1 > 0))
 (ixa P t_sl_string (Sl.v data_0) (w64 (a_1 - 1)) fun (x7 : Addr) =>
 ld P t_string x7 .s fun (x8 : Bs) =>
 ixa P t_sl_string (Sl.v data_0) (w64 ((w64 (b_2 - 1)) - (w64 (x4.1 - a_1)))) fun (x9 : Addr) =>
 ld P t_string x9 .s fun (x10 : Bs) =>
 mcall P n_cmp_Less_string [(.string ⟨x8.toArray⟩), (.string ⟨x10.toArray⟩)] .b fun (x11 : Bool) =>
 mif (!x11)
 (mcall P n_slices_partitionEqualOrdered_string [(Sl.v data_0), (.int .i64 a_1), (.int .i64 b_2), (.int .i64 (w64 ((w64 (b_2 - 1)) - (w64 (x4.1 - a_1)))))] I fun (x12 : Int) =>
 c1 (x12, b_2, w64 (limit_3 - 1), wasBalanced_8, wasPartitioned_9, ()) (data_0, ()))
 (mcall P n_slices_partitionOrdered_string [(Sl.v data_0), (.int .i64 a_1), (.int .i64 b_2), (.int .i64 (w64 ((w64 (b_2 - 1)) - (w64 (x4.1 - a_1)))))] (.tup [I, .b]) fun (x13 : Int × Bool × Unit) =>
 mif (decide ((w64 (x13.1 - a_1)) < (w64 (b_2 - x13.1))))
 (mcall P n_slices_pdqsortOrdered_string [(Sl.v data_0), (.int .i64 a_1), (.int .i64 x13.1), (.int .i64 (w64 (limit_3 - 1)))] (.tup []) fun (x14 : Unit) =>
 c1 (w64 (x13.1 + 1), b_2, w64 (limit_3 - 1), decide ((w64 (x13.1 - a_1)) ≥ (w64 ((w64 (b_2 - a_1)).tdiv 8))), x13.2.1, ()) (data_0, ()))
 (mcall P n_slices_pdqsortOrdered_string [(Sl.v data_0), (.int .i64 (w64 (x13.1 + 1))), (.int .i64 b_2), (.int .i64 (w64 (limit_3 - 1)))] (.tup []) fun (x15 : Unit) =>
 c1 (a_1, x13.1, w64 (limit_3 - 1), decide ((w64 (b_2 - x13.1)) ≥ (w64 ((w64 (b_2 - a_1)).tdiv 8))), x13.2.1, ()) (data_0, ()))))
 (mcall P n_slices_partitionOrdered_string [(Sl.v data_0), (.int .i64 a_1), (.int .i64 b_2), (.int .i64 (w64 ((w64 (b_2 - 1)) - (w64 (x4.1 - a_1)))))] (.tup [I, .b]) fun (x16 : Int × Bool × Unit) =>
 mif (decide ((w64 (x16.1 - a_1)) < (w64 (b_2 - x16.1))))
 (mcall P n_slices_pdqsortOrdered_string [(Sl.v data_0), (.int .i64 a_1), (.int .i64 x16.1), (.int .i64 (w64 (limit_3 - 1)))] (.tup []) fun (x17 : Unit) =>
 c1 (w64 (x16.1 + 1), b_2, w64 (limit_3 - 1), decide ((w64 (x16.1 - a_1)) ≥ (w64 ((w64 (b_2 - a_1)).tdiv 8))), x16.2.1, ()) (data_0, ()))
 (mcall P n_slices_pdqsortOrdered_string [(Sl.v data_0), (.int .i64 (w64 (x16.1 + 1))), (.int .i64 b_2), (.int .i64 (w64 (limit_3 - 1)))] (.tup []) fun (x18 : Unit) =>
 c1 (a_1, x16.1, w64 (limit_3 - 1), decide ((w64 (b_2 - x16.1)) ≥ (w64 ((w64 (b_2 - a_1)).tdiv 8))), x16.2.1, ()) (data_0, ())))))
 (mdraw <|
 mif (decide (a_1 > 0))
 (ixa P t_sl_string (Sl.v data_0) (w64 (a_1 - 1)) fun (x19 : Addr) =>
 ld P t_string x19 .s fun (x20 : Bs) =>
 ixa P t_sl_string (Sl.v data_0) (w64 ((w64 (b_2 - 1)) - (w64 (x4.1 - a_1)))) fun (x21 : Addr) =>
 ld P t_string x21 .s fun (x22 : Bs) =>
 mcall P n_cmp_Less_string [(.string ⟨x20.toArray⟩), (.string ⟨x22.toArray⟩)] .b fun (x23 : Bool) =>
 mif (!x23)
 (mcall P n_slices_partitionEqualOrdered_string [(Sl.v data_0), (.int .i64 a_1), (.int .i64 b_2), (.int .i64 (w64 ((w64 (b_2 - 1)) - (w64 (x4.1 - a_1)))))] I fun (x24 : Int) =>
 c1 (x24, b_2, w64 (limit_3 - 1), wasBalanced_8, wasPartitioned_9, ()) (data_0, ()))
 (mcall P n_slices_partitionOrdered_string [(Sl.v data_0), (.int .i64 a_1), (.int .i64 b_2), (.int .i64 (w64 ((w64 (b_2 - 1)) - (w64 (x4.1 - a_1)))))] (.tup [I, .b]) fun (x25 : Int × Bool × Unit) =>
 mif (decide ((w64 (x25.1 - a_1)) < (w64 (b_2 - x25.1))))
 (mcall P n_slices_pdqsortOrdered_string [(Sl.v data_0), (.int .i64 a_1), (.int .i64 x25.1), (.int .i64 (w64 (limit_3 - 1)))] (.tup []) fun (x26 : Unit) =>
 c1 (w64 (x25.1 + 1), b_2, w64 (limit_3 - 1), decide ((w64 (x25.1 - a_1)) ≥ (w64 ((w64 (b_2 - a_1)).tdiv 8))), x25.2.1, ()) (data_0, ()))
 (mcall P n_slices_pdqsortOrdered_string [(Sl.v data_0), (.int .i64 (w64 (x25.1 + 1))), (.int .i64 b_2), (.int .i64 (w64 (limit_3 - 1)))] (.tup []) fun (x27 : Unit) =>
 c1 (a_1, x25.1, w64 (limit_3 - 1), decide ((w64 (b_2 - x25.1)) ≥ (w64 ((w64 (b_2 - a_1)).tdiv 8))), x25.2.1, ()) (data_0, ()))))
 (mcall P n_slices_partitionOrdered_string [(Sl.v data_0), (.int .i64 a_1), (.int .i64 b_2), (.int .i64 (w64 ((w64 (b_2 - 1)) - (w64 (x4.1 - a_1)))))] (.tup [I, .b]) fun (x28 : Int × Bool × Unit) =>
 mif (decide ((w64 (x28.1 - a_1)) < (w64 (b_2 - x28.1))))
 (mcall P n_slices_pdqsortOrdered_string [(Sl.v data_0), (.int .i64 a_1), (.int .i64 x28.1), (.int .i64 (w64 (limit_3 - 1)))] (.tup []) fun (x29 : Unit) =>
 c1 (w64 (x28.1 + 1), b_2, w64 (limit_3 - 1), decide ((w64 (x28.1 - a_1)) ≥ (w64 ((w64 (b_2 - a_1)).tdiv 8))), x28.2.1, ()) (data_0, ()))
 (mcall P n_slices_pdqsortOrdered_string [(Sl.v data_0), (.int .i64 (w64 (x28.1 + 1))), (.int .i64 b_2), (.int .i64 (w64 (limit_3 - 1)))] (.tup []) fun (x30 : Unit) =>
 c1 (a_1, x28.1, w64 (limit_3 - 1), decide ((w64 (b_2 - x28.1)) ≥ (w64 ((w64 (b_2 - a_1)).tdiv 8))), x28.2.1, ()) (data_0, ())))))
 (mdraw <|
 mif (decide (a_1 > 0))
 (ixa P t_sl_string (Sl.v data_0) (w64 (a_1 - 1)) fun (x31 : Addr) =>
 ld P t_string x31 .s fun (x32 : Bs) =>
 ixa P t_sl_string (Sl.v data_0) (w64 ((w64 (b_2 - 1)) - (w64 (x4.1 - a_1)))) fun (x33 : Addr) =>
 ld P t_string x33 .s fun (x34 : Bs) =>
 mcall P n_cmp_Less_string [(.string ⟨x32.toArray⟩), (.string ⟨x34.toArray⟩)] .b fun (x35 : Bool) =>
 mif (!x35)
 (mcall P n_slices_partitionEqualOrdered_string [(Sl.v data_0), (.int .i64 a_1), (.int .i64 b_2), (.int .i64 (w64 ((w64 (b_2 - 1)) - (w64 (x4.1 - a_1)))))] I fun (x36 : Int) =>
 c1 (x36, b_2, w64 (limit_3 - 1), wasBalanced_8, wasPartitioned_9, ()) (data_0, ()))
 (mcall P n_slices_partitionOrdered_string [(Sl.v data_0), (.int .i64 a_1), (.int .i64 b_2), (.int .i64 (w64 ((w64 (b_2 - 1)) - (w64 (x4.1 - a_1)))))] (.tup [I, .b]) fun (x37 : Int × Bool × Unit) =>
 mif (decide ((w64 (x37.1 - a_1)) < (w64 (b_2 - x37.1))))
 (mcall P n_slices_pdqsortOrdered_string [(Sl.v data_0), (.int .i64 a_1), (.int .i64 x37.1), (.int .i64 (w64 (limit_3 - 1)))] (.tup []) fun (x38 : Unit) =>
 c1 (w64 (x37.1 + 1), b_2, w64 (limit_3 - 1), decide ((w64 (x37.1 - a_1)) ≥ (w64 ((w64 (b_2 - a_1)).tdiv 8))), x37.2.1, ()) (data_0, ()))
 (mcall P n_slices_pdqsortOrdered_string [(Sl.v data_0), (.int .i64 (w64 (x37.1 + 1))), (.int .i64 b_2), (.int .i64 (w64 (limit_3 - 1)))] (.tup []) fun (x39 : Unit) =>
 c1 (a_1, x37.1, w64 (limit_3 - 1), decide ((w64 (b_2 - x37.1)) ≥ (w64 ((w64 (b_2 - a_1)).tdiv 8))), x37.2.1, ()) (data_0, ()))))
 (mcall P n_slices_partitionOrdered_string [(Sl.v data_0), (.int .i64 a_1), (.int .i64 b_2), (.int .i64 (w64 ((w64 (b_2 - 1)) - (w64 (x4.1 - a_1)))))] (.tup [I, .b]) fun (x40 : Int × Bool × Unit) =>
 mif (decide ((w64 (x40.1 - a_1)) < (w64 (b_2 - x40.1))))
 (mcall P n_slices_pdqsortOrdered_string [(Sl.v data_0), (.int .i64 a_1), (.int .i64 x40.1), (.int .i64 (w64 (limit_3 - 1)))] (.tup []) fun (x41 : Unit) =>
 c1 (w64 (x40.1 + 1), b_2, w64 (limit_3 - 1), decide ((w64 (x40.1 - a_1)) ≥ (w64 ((w64 (b_2 - a_1)).tdiv 8))), x40.2.1, ()) (data_0, ()))
 (mcall P n_slices_pdqsortOrdered_string [(Sl.v data_0), (.int .i64 (w64 (x40.1 + 1))), (.int .i64 b_2), (.int .i64 (w64 (limit_3 - 1)))] (.tup []) fun (x42 : Unit) =>
 c1 (a_1, x40.1, w64 (limit_3 - 1), decide ((w64 (b_2 - x40.1)) ≥ (w64 ((w64 (b_2 - a_1)).tdiv 8))), x40.2.1, ()) (data_0, ())))))
 (mdraw <|
 mif (decide (a_1 > 0))
 (ixa P t_sl_string (Sl.v data_0) (w64 (a_1 - 1)) fun (x43 : Addr) =>
 ld P t_string x43 .s fun (x44 : Bs) =>
 ixa P t_sl_string (Sl.v data_0) (w64 ((w64 (b_2 - 1)) - (w64 (x4.1 - a_1)))) fun (x45 : Addr) =>
 ld P t_string x45 .s fun (x46 : Bs) =>
 mcall P n_cmp_Less_string [(.string ⟨x44.toArray⟩), (.string ⟨x46.toArray⟩)] .b fun (x47 : Bool) =>
 mif (!x47)
 (mcall P n_slices_partitionEqualOrdered_string [(Sl.v data_0), (.int .i64 a_1), (.int .i64 b_2), (.int .i64 (w64 ((w64 (b_2 - 1)) - (w64 (x4.1 - a_1)))))] I fun (x48 : Int) =>
 c1 (x48, b_2, w64 (limit_3 - 1), wasBalanced_8, wasPartitioned_9, ()) (data_0, ()))
 (mcall P n_slices_partitionOrdered_string [(Sl.v data_0), (.int .i64 a_1), (.int .i64 b_2), (.int .i64 (w64 ((w64 (b_2 - 1)) - (w64 (x4.1 - a_1)))))] (.tup [I, .b]) fun (x49 : Int × Bool × Unit) =>
 mif (decide ((w64 (x49.1 - a_1)) < (w64 (b_2 - x49.1))))
 (mcall P n_slices_pdqsortOrdered_string [(Sl.v data_0), (.int .i64 a_1), (.int .i64 x49.1), (.int .i64 (w64 (limit_3 - 1)))] (.tup []) fun (x50 : Unit) =>
 c1 (w64 (x49.1 + 1), b_2, w64 (limit_3 - 1), decide ((w64 (x49.1 - a_1)) ≥ (w64 ((w64 (b_2 - a_1)).tdiv 8))), x49.2.1, ()) (data_0, ()))
 (mcall P n_slices_pdqsortOrdered_string [(Sl.v data_0), (.int .i64 (w64 (x49.1 + 1))), (.int .i64 b_2), (.int .i64 (w64 (limit_3 - 1)))] (.tup []) fun (x51 : Unit) =>
 c1 (a_1, x49.1, w64 (limit_3 - 1), decide ((w64 (b_2 - x49.1)) ≥ (w64 ((w64 (b_2 - a_1)).tdiv 8))), x49.2.1, ()) (data_0, ()))))
 (mcall P n_slices_partitionOrdered_string [(Sl.v data_0), (.int .i64 a_1), (.int .i64 b_2), (.int .i64 (w64 ((w64 (b_2 - 1)) - (w64 (x4.1 - a_1)))))] (.tup [I, .b]) fun (x52 : Int × Bool × Unit) =>
 mif (decide ((w64 (x52.1 - a_1)) < (w64 (b_2 - x52.1))))
 (mcall P n_slices_pdqsortOrdered_string [(Sl.v data_0), (.int .i64 a_1), (.int .i64 x52.1), (.int .i64 (w64 (limit_3 - 1)))] (.tup []) fun (x53 : Unit) =>
 c1 (w64 (x52.1 + 1), b_2, w64 (limit_3 - 1), decide ((w64 (x52.1 - a_1)) ≥ (w64 ((w64 (b_2 - a_1)).tdiv 8))), x52.2.1, ()) (data_0, ()))
 (mcall P n_slices_pdqsortOrdered_string [(Sl.v data_0), (.int .i64 (w64 (x52.1 + 1))), (.int .i64 b_2), (.int .i64 (w64 (limit_3 - 1)))] (.tup []) fun (x54 : Unit) =>
 c1 (a_1, x52.1, w64 (limit_3 - 1), decide ((w64 (b_2 - x52.1)) ≥ (w64 ((w64 (b_2 - a_1)).tdiv 8))), x52.2.1, ()) (data_0, ())))))
 (mif wasBalanced_8
 (mif wasPartitioned_9
 (mif (x4.2.1 == 1)
 (mcall P n_slices_partialInsertionSortOrdered_string [(Sl.v data_0), (.int .i64 a_1), (.int .i64 b_2)] .b fun (x55 : Bool) =>
 mif x55
 (R (()))
 (mdraw <|
 mif (decide (a_1 > 0))
 (ixa P t_sl_string (Sl.v data_0) (w64 (a_1 - 1)) fun (x56 : Addr) =>
 ld P t_string x56 .s fun (x57 : Bs) =>
 ixa P t_sl_string (Sl.v data_0) x4.1 fun (x58 : Addr) =>
 ld P t_string x58 .s fun (x59 : Bs) =>
 mcall P n_cmp_Less_string [(.string ⟨x57.toArray⟩), (.string ⟨x59.toArray⟩)] .b fun (x60 : Bool) =>
 mif (!x60)
 (mcall P n_slices_partitionEqualOrdered_string [(Sl.v data_0), (.int .i64 a_1), (.int .i64 b_2), (.int .i64 x4.1)] I fun (x61 : Int) =>
 c1 (x61, b_2, w64 (limit_3 - 1), wasBalanced_8, wasPartitioned_9, ()) (data_0, ()))
 (mcall P n_slices_partitionOrdered_string [(Sl.v data_0), (.int .i64 a_1), (.int .i64 b_2), (.int .i64 x4.1)] (.tup [I, .b]) fun (x62 : Int × Bool × Unit) =>
 mif (decide ((w64 (x62.1 - a_1)) < (w64 (b_2 - x62.1))))
 (mcall P n_slices_pdqsortOrdered_string [(Sl.v data_0), (.int .i64 a_1), (.int .i64 x62.1), (.int .i64 (w64 (limit_3 - 1)))] (.tup []) fun (x63 : Unit) =>
 c1 (w64 (x62.1 + 1), b_2, w64 (limit_3 - 1), decide ((w64 (x62.1 - a_1)) ≥ (w64 ((w64 (b_2 - a_1)).tdiv 8))), x62.2.1, ()) (data_0, ()))
 (mcall P n_slices_pdqsortOrdered_string [(Sl.v data_0), (.int .i64 (w64 (x62.1 + 1))), (.int .i64 b_2), (.int .i64 (w64 (limit_3 - 1)))] (.tup []) fun (x64 : Unit) =>
 c1 (a_1, x62.1, w64 (limit_3 - 1), decide ((w64 (b_2 - x62.1)) ≥ (w64 ((w64 (b_2 - a_1)).tdiv 8))), x62.2.1, ()) (data_0, ()))))
 (mcall P n_slices_partitionOrdered_string [(Sl.v data_0), (.int .i64 a_1), (.int .i64 b_2), (.int .i64 x4.1)] (.tup [I, .b]) fun (x65 : Int × Bool × Unit) =>
 mif (decide ((w64 (x65.1 - a_1)) < (w64 (b_2 - x65.1))))
 (mcall P n_slices_pdqsortOrdered_string [(Sl.v data_0), (.int .i64 a_1), (.int .i64 x65.1), (.int .i64 (w64 (limit_3 - 1)))] (.tup []) fun (x66 : Unit) =>
 c1 (w64 (x65.1 + 1), b_2, w64 (limit_3 - 1), decide ((w64 (x65.1 - a_1)) ≥ (w64 ((w64 (b_2 - a_1)).tdiv 8))), x65.2.1, ()) (data_0, ()))
 (mcall P n_slices_pdqsortOrdered_string [(Sl.v data_0), (.int .i64 (w64 (x65.1 + 1))), (.int .i64 b_2), (.int .i64 (w64 (limit_3 - 1)))] (.tup []) fun (x67 : Unit) =>
 c1 (a_1, x65.1, w64 (limit_3 - 1), decide ((w64 (b_2 - x65.1)) ≥ (w64 ((w64 (b_2 - a_1)).tdiv 8))), x65.2.1, ()) (data_0, ())))))
 (mdraw <|
 mif (decide (a_1 > 0))
 (ixa P t_sl_string (Sl.v data_0) (w64 (a_1 - 1)) fun (x68 : Addr) =>
 ld P t_string x68 .s fun (x69 : Bs) =>
 ixa P t_sl_string (Sl.v data_0) x4.1 fun (x70 : Addr) =>
 ld P t_string x70 .s fun (x71 : Bs) =>
 mcall P n_cmp_Less_string [(.string ⟨x69.toArray⟩), (.string ⟨x71.toArray⟩)] .b fun (x72 : Bool) =>
 mif (!x72)
 (mcall P n_slices_partitionEqualOrdered_string [(Sl.v data_0), (.int .i64 a_1), (.int .i64 b_2), (.int .i64 x4.1)] I fun (x73 : Int) =>
 c1 (x73, b_2, w64 (limit_3 - 1), wasBalanced_8, wasPartitioned_9, ()) (data_0, ()))
 (mcall P n_slices_partitionOrdered_string [(Sl.v data_0), (.int .i64 a_1), (.int .i64 b_2), (.int .i64 x4.1)] (.tup [I, .b]) fun (x74 : Int × Bool × Unit) =>
 mif (decide ((w64 (x74.1 - a_1)) < (w64 (b_2 - x74.1))))
 (mcall P n_slices_pdqsortOrdered_string [(Sl.v data_0), (.int .i64 a_1), (.int .i64 x74.1), (.int .i64 (w64 (limit_3 - 1)))] (.tup []) fun (x75 : Unit) =>
 c1 (w64 (x74.1 + 1), b_2, w64 (limit_3 - 1), decide ((w64 (x74.1 - a_1)) ≥ (w64 ((w64 (b_2 - a_1)).tdiv 8))), x74.2.1, ()) (data_0, ()))
 (mcall P n_slices_pdqsortOrdered_string [(Sl.v data_0), (.int .i64 (w64 (x74.1 + 1))), (.int .i64 b_2), (.int .i64 (w64 (limit_3 - 1)))] (.tup []) fun (x76 : Unit) =>
 c1 (a_1, x74.1, w64 (limit_3 - 1), decide ((w64 (b_2 - x74.1)) ≥ (w64 ((w64 (b_2 - a_1)).tdiv 8))), x74.2.1, ()) (data_0, ()))))
 (mcall P n_slices_partitionOrdered_string [(Sl.v data_0), (.int .i64 a_1), (.int .i64 b_2), (.int .i64 x4.1)] (.tup [I, .b]) fun (x77 : Int × Bool × Unit) =>
 mif (decide ((w64 (x77.1 - a_1)) < (w64 (b_2 - x77.1))))
 (mcall P n_slices_pdqsortOrdered_string [(Sl.v data_0), (.int .i64 a_1), (.int .i64 x77.1), (.int .i64 (w64 (limit_3 - 1)))] (.tup []) fun (x78 : Unit) =>
 c1 (w64 (x77.1 + 1), b_2, w64 (limit_3 - 1), decide ((w64 (x77.1 - a_1)) ≥ (w64 ((w64 (b_2 - a_1)).tdiv 8))), x77.2.1, ()) (data_0, ()))
 (mcall P n_slices_pdqsortOrdered_string [(Sl.v data_0), (.int .i64 (w64 (x77.1 + 1))), (.int .i64 b_2), (.int .i64 (w64 (limit_3 - 1)))] (.tup []) fun (x79 : Unit) =>
 c1 (a_1, x77.1, w64 (limit_3 - 1), decide ((w64 (b_2 - x77.1)) ≥ (w64 ((w64 (b_2 - a_1)).tdiv 8))), x77.2.1, ()) (data_0, ())))))
 (mdraw <|
 mif (decide (a_1 > 0))
 (ixa P t_sl_string (Sl.v data_0) (w64 (a_1 - 1)) fun (x80 : Addr) =>
 ld P t_string x80 .s fun (x81 : Bs) =>
 ixa P t_sl_string (Sl.v data_0) x4.1 fun (x82 : Addr) =>
 ld P t_string x82 .s fun (x83 : Bs) =>
 mcall P n_cmp_Less_string [(.string ⟨x81.toArray⟩), (.string ⟨x83.toArray⟩)] .b fun (x84 : Bool) =>
 mif (!x84)
 (mcall P n_slices_partitionEqualOrdered_string [(Sl.v data_0), (.int .i64 a_1), (.int .i64 b_2), (.int .i64 x4.1)] I fun (x85 : Int) =>
 c1 (x85, b_2, w64 (limit_3 - 1), wasBalanced_8, wasPartitioned_9, ()) (data_0, ()))
 (mcall P n_slices_partitionOrdered_string [(Sl.v data_0), (.int .i64 a_1), (.int .i64 b_2), (.int .i64 x4.1)] (.tup [I, .b]) fun (x86 : Int × Bool × Unit) =>
 mif (decide ((w64 (x86.1 - a_1)) < (w64 (b_2 - x86.1))))
 (mcall P n_slices_pdqsortOrdered_string [(Sl.v data_0), (.int .i64 a_1), (.int .i64 x86.1), (.int .i64 (w64 (limit_3 - 1)))] (.tup []) fun (x87 : Unit) =>
 c1 (w64 (x86.1 + 1), b_2, w64 (limit_3 - 1), decide ((w64 (x86.1 - a_1)) ≥ (w64 ((w64 (b_2 - a_1)).tdiv 8))), x86.2.1, ()) (data_0, ()))
 (mcall P n_slices_pdqsortOrdered_string [(Sl.v data_0), (.int .i64 (w64 (x86.1 + 1))), (.int .i64 b_2), (.int .i64 (w64 (limit_3 - 1)))] (.tup []) fun (x88 : Unit) =>
 c1 (a_1, x86.1, w64 (limit_3 - 1), decide ((w64 (b_2 - x86.1)) ≥ (w64 ((w64 (b_2 - a_1)).tdiv 8))), x86.2.1, ()) (data_0, ()))))
 (mcall P n_slices_partitionOrdered_string [(Sl.v data_0), (.int .i64 a_1), (.int .i64 b_2), (.int .i64 x4.1)] (.tup [I, .b]) fun (x89 : Int × Bool × Unit) =>
 mif (decide ((w64 (x89.1 - a_1)) < (w64 (b_2 - x89.1))))
 (mcall P n_slices_pdqsortOrdered_string [(Sl.v data_0), (.int .i64 a_1), (.int .i64 x89.1), (.int .i64 (w64 (limit_3 - 1)))] (.tup []) fun (x90 : Unit) =>
 c1 (w64 (x89.1 + 1), b_2, w64 (limit_3 - 1), decide ((w64 (x89.1 - a_1)) ≥ (w64 ((w64 (b_2 - a_1)).tdiv 8))), x89.2.1, ()) (data_0, ()))
 (mcall P n_slices_pdqsortOrdered_string [(Sl.v data_0), (.int .i64 (w64 (x89.1 + 1))), (.int .i64 b_2), (.int .i64 (w64 (limit_3 - 1)))] (.tup []) fun (x91 : Unit) =>
 c1 (a_1, x89.1, w64 (limit_3 - 1), decide ((w64 (b_2 - x89.1)) ≥ (w64 ((w64 (b_2 - a_1)).tdiv 8))), x89.2.1, ()) (data_0, ())))))
 (mdraw <|
 mif (decide (a_1 > 0))
 (ixa P t_sl_string (Sl.v data_0) (w64 (a_1 - 1)) fun (x92 : Addr) =>
 ld P t_string x92 .s fun (x93 : Bs) =>
 ixa P t_sl_string (Sl.v data_0) x4.1 fun (x94 : Addr) =>
 ld P t_string x94 .s fun (x95 : Bs) =>
 mcall P n_cmp_Less_string [(.string ⟨x93.toArray⟩), (.string ⟨x95.toArray⟩)] .b fun (x96 : Bool) =>
 mif (!x96)
 (mcall P n_slices_partitionEqualOrdered_string [(Sl.v data_0), (.int .i64 a_1), (.int .i64 b_2), (.int .i64 x4.1)] I fun (x97 : Int) =>
 c1 (x97, b_2, w64 (limit_3 - 1), wasBalanced_8, wasPartitioned_9, ()) (data_0, ()))
 (mcall P n_slices_partitionOrdered_string [(Sl.v data_0), (.int .i64 a_1), (.int .i64 b_2), (.int .i64 x4.1)] (.tup [I, .b]) fun (x98 : Int × Bool × Unit) =>
 mif (decide ((w64 (x98.1 - a_1)) < (w64 (b_2 - x98.1))))
 (mcall P n_slices_pdqsortOrdered_string [(Sl.v data_0), (.int .i64 a_1), (.int .i64 x98.1), (.int .i64 (w64 (limit_3 - 1)))] (.tup []) fun (x99 : Unit) =>
 c1 (w64 (x98.1 + 1), b_2, w64 (limit_3 - 1), decide ((w64 (x98.1 - a_1)) ≥ (w64 ((w64 (b_2 - a_1)).tdiv 8))), x98.2.1, ()) (data_0, ()))
 (mcall P n_slices_pdqsortOrdered_string [(Sl.v data_0), (.int .i64 (w64 (x98.1 + 1))), (.int .i64 b_2), (.int .i64 (w64 (limit_3 - 1)))] (.tup []) fun (x100 : Unit) =>
 c1 (a_1, x98.1, w64 (limit_3 - 1), decide ((w64 (b_2 - x98.1)) ≥ (w64 ((w64 (b_2 - a_1)).tdiv 8))), x98.2.1, ()) (data_0, ()))))
 (mcall P n_slices_partitionOrdered_string [(Sl.v data_0), (.int .i64 a_1), (.int .i64 b_2), (.int .i64 x4.1)] (.tup [I, .b]) fun (x101 : Int × Bool × Unit) =>
 mif (decide ((w64 (x101.1 - a_1)) < (w64 (b_2 - x101.1))))
 (mcall P n_slices_pdqsortOrdered_string [(Sl.v data_0), (.int .i64 a_1), (.int .i64 x101.1), (.int .i64 (w64 (limit_3 - 1)))] (.tup []) fun (x102 : Unit) =>
 c1 (w64 (x101.1 + 1), b_2, w64 (limit_3 - 1), decide ((w64 (x101.1 - a_1)) ≥ (w64 ((w64 (b_2 - a_1)).tdiv 8))), x101.2.1, ()) (data_0, ()))
 (mcall P n_slices_pdqsortOrdered_string [(Sl.v data_0), (.int .i64 (w64 (x101.1 + 1))), (.int .i64 b_2), (.int .i64 (w64 (limit_3 - 1)))] (.tup []) fun (x103 : Unit) =>
 c1 (a_1, x101.1, w64 (limit_3 - 1), decide ((w64 (b_2 - x101.1)) ≥ (w64 ((w64 (b_2 - a_1)).tdiv 8))), x101.2.1, ()) (data_0, ()))))))
 (mcall P n_slices_choosePivotOrdered_string [(Sl.v data_0), (.int .i64 a_1), (.int .i64 b_2)] (.tup [I, I]) fun (x104 : Int × Int × Unit) =>
 mif (x104.2.1 == 2)
 (mcall P n_slices_reverseRangeOrdered_string [(Sl.v data_0), (.int .i64 a_1), (.int .i64 b_2)] (.tup []) fun (x105 : Unit) =>
 mif wasBalanced_8
 (mif wasPartitioned_9
 (mif (1 == 1)
 (mcall P n_slices_partialInsertionSortOrdered_string [(Sl.v data_0), (.int .i64 a_1), (.int .i64 b_2)] .b fun (x106 : Bool) =>
 mif x106
 (R (()))
 (mdraw <|
 mif (decide (a_1 > 0))
 (ixa P t_sl_string (Sl.v data_0) (w64 (a_1 - 1)) fun (x107 : Addr) =>
 ld P t_string x107 .s fun (x108 : Bs) =>
 ixa P t_sl_string (Sl.v data_0) (w64 ((w64 (b_2 - 1)) - (w64 (x104.1 - a_1)))) fun (x109 : Addr) =>
 ld P t_string x109 .s fun (x110 : Bs) =>
 mcall P n_cmp_Less_string [(.string ⟨x108.toArray⟩), (.string ⟨x110.toArray⟩)] .b fun (x111 : Bool) =>
 mif (!x111)
 (mcall P n_slices_partitionEqualOrdered_string [(Sl.v data_0), (.int .i64 a_1), (.int .i64 b_2), (.int .i64 (w64 ((w64 (b_2 - 1)) - (w64 (x104.1 - a_1)))))] I fun (x112 : Int) =>
 c1 (x112, b_2, limit_3, wasBalanced_8, wasPartitioned_9, ()) (data_0, ()))
 (mcall P n_slices_partitionOrdered_string [(Sl.v data_0), (.int .i64 a_1), (.int .i64 b_2), (.int .i64 (w64 ((w64 (b_2 - 1)) - (w64 (x104.1 - a_1)))))] (.tup [I, .b]) fun (x113 : Int × Bool × Unit) =>
 mif (decide ((w64 (x113.1 - a_1)) < (w64 (b_2 - x113.1))))
 (mcall P n_slices_pdqsortOrdered_string [(Sl.v data_0), (.int .i64 a_1), (.int .i64 x113.1), (.int .i64 limit_3)] (.tup []) fun (x114 : Unit) =>
 c1 (w64 (x113.1 + 1), b_2, limit_3, decide ((w64 (x113.1 - a_1)) ≥ (w64 ((w64 (b_2 - a_1)).tdiv 8))), x113.2.1, ()) (data_0, ()))
 (mcall P n_slices_pdqsortOrdered_string [(Sl.v data_0), (.int .i64 (w64 (x113.1 + 1))), (.int .i64 b_2), (.int .i64 limit_3)] (.tup []) fun (x115 : Unit) =>
 c1 (a_1, x113.1, limit_3, decide ((w64 (b_2 - x113.1)) ≥ (w64 ((w64 (b_2 - a_1)).tdiv 8))), x113.2.1, ()) (data_0, ()))))
 (mcall P n_slices_partitionOrdered_string [(Sl.v data_0), (.int .i64 a_1), (.int .i64 b_2), (.int .i64 (w64 ((w64 (b_2 - 1)) - (w64 (x104.1 - a_1)))))] (.tup [I, .b]) fun (x116 : Int × Bool × Unit) =>
 mif (decide ((w64 (x116.1 - a_1)) < (w64 (b_2 - x116.1))))
 (mcall P n_slices_pdqsortOrdered_string [(Sl.v data_0), (.int .i64 a_1), (.int .i64 x116.1), (.int .i64 limit_3)] (.tup []) fun (x117 : Unit) =>
 c1 (w64 (x116.1 + 1), b_2, limit_3, decide ((w64 (x116.1 - a_1)) ≥ (w64 ((w64 (b_2 - a_1)).tdiv 8))), x116.2.1, ()) (data_0, ()))
 (mcall P n_slices_pdqsortOrdered_string [(Sl.v data_0), (.int .i64 (w64 (x116.1 + 1))), (.int .i64 b_2), (.int .i64 limit_3)] (.tup []) fun (x118 : Unit) =>
 c1 (a_1, x116.1, limit_3, decide ((w64 (b_2 - x116.1)) ≥ (w64 ((w64 (b_2 - a_1)).tdiv 8))), x116.2.1, ()) (data_0, ())))))
 (mdraw <|
 mif (decide (a_1 > 0))
 (ixa P t_sl_string (Sl.v data_0) (w64 (a_1 - 1)) fun (x119 : Addr) =>
 ld P t_string x119 .s fun (x120 : Bs) =>
 ixa P t_sl_string (Sl.v data_0) (w64 ((w64 (b_2 - 1)) - (w64 (x104.1 - a_1)))) fun (x121 : Addr) =>
 ld P t_string x121 .s fun (x122 : Bs) =>
 mcall P n_cmp_Less_string [(.string ⟨x120.toArray⟩), (.string ⟨x122.toArray⟩)] .b fun (x123 : Bool) =>
 mif (!x123)
 (mcall P n_slices_partitionEqualOrdered_string [(Sl.v data_0), (.int .i64 a_1), (.int .i64 b_2), (.int .i64 (w64 ((w64 (b_2 - 1)) - (w64 (x104.1 - a_1)))))] I fun (x124 : Int) =>
 c1 (x124, b_2, limit_3, wasBalanced_8, wasPartitioned_9, ()) (data_0, ()))
 (mcall P n_slices_partitionOrdered_string [(Sl.v data_0), (.int .i64 a_1), (.int .i64 b_2), (.int .i64 (w64 ((w64 (b_2 - 1)) - (w64 (x104.1 - a_1)))))] (.tup [I, .b]) fun (x125 : Int × Bool × Unit) =>
 mif (decide ((w64 (x125.1 - a_1)) < (w64 (b_2 - x125.1))))
 (mcall P n_slices_pdqsortOrdered_string [(Sl.v data_0), (.int .i64 a_1), (.int .i64 x125.1), (.int .i64 limit_3)] (.tup []) fun (x126 : Unit) =>
 c1 (w64 (x125.1 + 1), b_2, limit_3, decide ((w64 (x125.1 - a_1)) ≥ (w64 ((w64 (b_2 - a_1)).tdiv 8))), x125.2.1, ()) (data_0, ()))
 (mcall P n_slices_pdqsortOrdered_string [(Sl.v data_0), (.int .i64 (w64 (x125.1 + 1))), (.int .i64 b_2), (.int .i64 limit_3)] (.tup []) fun (x127 : Unit) =>
 c1 (a_1, x125.1, limit_3, decide ((w64 (b_2 - x125.1)) ≥ (w64 ((w64 (b_2 - a_1)).tdiv 8))), x125.2.1, ()) (data_0, ()))))
 (mcall P n_slices_partitionOrdered_string [(Sl.v data_0), (.int .i64 a_1), (.int .i64 b_2), (.int .i64 (w64 ((w64 (b_2 - 1)) - (w64 (x104.1 - a_1)))))] (.tup [I, .b]) fun (x128 : Int × Bool × Unit) =>
 mif (decide ((w64 (x128.1 - a_1)) < (w64 (b_2 - x128.1))))
 (mcall P n_slices_pdqsortOrdered_string [(Sl.v data_0), (.int .i64 a_1), (.int .i64 x128.1), (.int .i64 limit_3)] (.tup []) fun (x129 : Unit) =>
 c1 (w64 (x128.1 + 1), b_2, limit_3, decide ((w64 (x128.1 - a_1)) ≥ (w64 ((w64 (b_2 - a_1)).tdiv 8))), x128.2.1, ()) (data_0, ()))
 (mcall P n_slices_pdqsortOrdered_string [(Sl.v data_0), (.int .i64 (w64 (x128.1 + 1))), (.int .i64 b_2), (.int .i64 limit_3)] (.tup []) fun (x130 : Unit) =>
 c1 (a_1, x128.1, limit_3, decide ((w64 (b_2 - x128.1)) ≥ (w64 ((w64 (b_2 - a_1)).tdiv 8))), x128.2.1, ()) (data_0, ())))))
 (mdraw <|
 mif (decide (a_1 > 0))
 (ixa P t_sl_string (Sl.v data_0) (w64 (a_1 - 1)) fun (x131 : Addr) =>
 ld P t_string x131 .s fun (x132 : Bs) =>
 ixa P t_sl_string (Sl.v data_0) (w64 ((w64 (b_2 - 1)) - (w64 (x104.1 - a_1)))) fun (x133 : Addr) =>
 ld P t_string x133 .s fun (x134 : Bs) =>
 mcall P n_cmp_Less_string [(.string ⟨x132.toArray⟩), (.string ⟨x134.toArray⟩)] .b fun (x135 : Bool) =>
 mif (!x135)
 (mcall P n_slices_partitionEqualOrdered_string [(Sl.v data_0), (.int .i64 a_1), (.int .i64 b_2), (.int .i64 (w64 ((w64 (b_2 - 1)) - (w64 (x104.1 - a_1)))))] I fun (x136 : Int) =>
 c1 (x136, b_2, limit_3, wasBalanced_8, wasPartitioned_9, ()) (data_0, ()))
 (mcall P n_slices_partitionOrdered_string [(Sl.v data_0), (.int .i64 a_1), (.int .i64 b_2), (.int .i64 (w64 ((w64 (b_2 - 1)) - (w64 (x104.1 - a_1)))))] (.tup [I, .b]) fun (x137 : Int × Bool × Unit) =>
 mif (decide ((w64 (x137.1 - a_1)) < (w64 (b_2 - x137.1))))
 (mcall P n_slices_pdqsortOrdered_string [(Sl.v data_0), (.int .i64 a_1), (.int .i64 x137.1), (.int .i64 limit_3)] (.tup []) fun (x138 : Unit) =>
 c1 (w64 (x137.1 + 1), b_2, limit_3, decide ((w64 (x137.1 - a_1)) ≥ (w64 ((w64 (b_2 - a_1)).tdiv 8))), x137.2.1, ()) (data_0, ()))
 (mcall P n_slices_pdqsortOrdered_string [(Sl.v data_0), (.int .i64 (w64 (x137.1 + 1))), (.int .i64 b_2), (.int .i64 limit_3)] (.tup []) fun (x139 : Unit) =>
 c1 (a_1, x137.1, limit_3, decide ((w64 (b_2 - x137.1)) ≥ (w64 ((w64 (b_2 - a_1)).tdiv 8))), x137.2.1, ()) (data_0, ()))))
 (mcall P n_slices_partitionOrdered_string [(Sl.v data_0), (.int .i64 a_1), (.int .i64 b_2), (.int .i64 (w64 ((w64 (b_2 - 1)) - (w64 (x104.1 - a_1)))))] (.tup [I, .b]) fun (x140 : Int × Bool × Unit) =>
 mif (decide ((w64 (x140.1 - a_1)) < (w64 (b_2 - x140.1))))
 (mcall P n_slices_pdqsortOrdered_string [(Sl.v data_0), (.int .i64 a_1), (.int .i64 x140.1), (.int .i64 limit_3)] (.tup []) fun (x141 : Unit) =>
 c1 (w64 (x140.1 + 1), b_2, limit_3, decide ((w64 (x140.1 - a_1)) ≥ (w64 ((w64 (b_2 - a_1)).tdiv 8))), x140.2.1, ()) (data_0, ()))
 (mcall P n_slices_pdqsortOrdered_string [(Sl.v data_0), (.int .i64 (w64 (x140.1 + 1))), (.int .i64 b_2), (.int .i64 limit_3)] (.tup []) fun (x142 : Unit) =>
 c1 (a_1, x140.1, limit_3, decide ((w64 (b_2 - x140.1)) ≥ (w64 ((w64 (b_2 - a_1)).tdiv 8))), x140.2.1, ()) (data_0, ())))))
 (mdraw <|
 mif (decide (a_1 > 0))
 (ixa P t_sl_string (Sl.v data_0) (w64 (a_1 - 1)) fun (x143 : Addr) =>
 ld P t_string x143 .s fun (x144 : Bs) =>
 ixa P t_sl_string (Sl.v data_0) (w64 ((w64 (b_2 - 1)) - (w64 (x104.1 - a_1)))) fun (x145 : Addr) =>
 ld P t_string x145 .s fun (x146 : Bs) =>
 mcall P n_cmp_Less_string [(.string ⟨x144.toArray⟩), (.string ⟨x146.toArray⟩)] .b fun (x147 : Bool) =>
 mif (!x147)
 (mcall P n_slices_partitionEqualOrdered_string [(Sl.v data_0), (.int .i64 a_1), (.int .i64 b_2), (.int .i64 (w64 ((w64 (b_2 - 1)) - (w64 (x104.1 - a_1)))))] I fun (x148 : Int) =>
 c1 (x148, b_2, limit_3, wasBalanced_8, wasPartitioned_9, ()) (data_0, ()))
 (mcall P n_slices_partitionOrdered_string [(Sl.v data_0), (.int .i64 a_1), (.int .i64 b_2), (.int .i64 (w64 ((w64 (b_2 - 1)) - (w64 (x104.1 - a_1)))))] (.tup [I, .b]) fun (x149 : Int × Bool × Unit) =>
 mif (decide ((w64 (x149.1 - a_1)) < (w64 (b_2 - x149.1))))
 (mcall P n_slices_pdqsortOrdered_string [(Sl.v data_0), (.int .i64 a_1), (.int .i64 x149.1), (.int .i64 limit_3)] (.tup []) fun (x150 : Unit) =>
 c1 (w64 (x149.1 + 1), b_2, limit_3, decide ((w64 (x149.1 - a_1)) ≥ (w64 ((w64 (b_2 - a_1)).tdiv 8))), x149.2.1, ()) (data_0, ()))
 (mcall P n_slices_pdqsortOrdered_string [(Sl.v data_0), (.int .i64 (w64 (x149.1 + 1))), (.int .i64 b_2), (.int .i64 limit_3)] (.tup []) fun (x151 : Unit) =>
 c1 (a_1, x149.1, limit_3, decide ((w64 (b_2 - x149.1)) ≥ (w64 ((w64 (b_2 - a_1)).tdiv 8))), x149.2.1, ()) (data_0, ()))))
 (mcall P n_slices_partitionOrdered_string [(Sl.v data_0), (.int .i64 a_1), (.int .i64 b_2), (.int .i64 (w64 ((w64 (b_2 - 1)) - (w64 (x104.1 - a_1)))))] (.tup [I, .b]) fun (x152 : Int × Bool × Unit) =>
 mif (decide ((w64 (x152.1 - a_1)) < (w64 (b_2 - x152.1))))
 (mcall P n_slices_pdqsortOrdered_string [(Sl.v data_0), (.int .i64 a_1), (.int .i64 x152.1), (.int .i64 limit_3)] (.tup []) fun (x153 : Unit) =>
 c1 (w64 (x152.1 + 1), b_2, limit_3, decide ((w64 (x152.1 - a_1)) ≥ (w64 ((w64 (b_2 - a_1)).tdiv 8))), x152.2.1, ()) (data_0, ()))
 (mcall P n_slices_pdqsortOrdered_string [(Sl.v data_0), (.int .i64 (w64 (x152.1 + 1))), (.int .i64 b_2), (.int .i64 limit_3)] (.tup []) fun (x154 : Unit) =>
 c1 (a_1, x152.1, limit_3, decide ((w64 (b_2 - x152.1)) ≥ (w64 ((w64 (b_2 - a_1)).tdiv 8))), x152.2.1, ()) (data_0, ())))))
 (mif wasBalanced_8
 (mif wasPartitioned_9
 (mif (x104.2.1 == 1)
 (mcall P n_slices_partialInsertionSortOrdered_string [(Sl.v data_0), (.int .i64 a_1), (.int .i64 b_2)] .b fun (x155 : Bool) =>
 mif x155
 (R (()))
 (mdraw <|
 mif (decide (a_1 > 0))
 (ixa P t_sl_string (Sl.v data_0) (w64 (a_1 - 1)) fun (x156 : Addr) =>
 ld P t_string x156 .s fun (x157 : Bs) =>
 ixa P t_sl_string (Sl.v data_0) x104.1 fun (x158 : Addr) =>
 ld P t_string x158 .s fun (x159 : Bs) =>
 mcall P n_cmp_Less_string [(.string ⟨x157.toArray⟩), (.string ⟨x159.toArray⟩)] .b fun (x160 : Bool) =>
 mif (!x160)
 (mcall P n_slices_partitionEqualOrdered_string [(Sl.v data_0), (.int .i64 a_1), (.int .i64 b_2), (.int .i64 x104.1)] I fun (x161 : Int) =>
 c1 (x161, b_2, limit_3, wasBalanced_8, wasPartitioned_9, ()) (data_0, ()))
 (mcall P n_slices_partitionOrdered_string [(Sl.v data_0), (.int .i64 a_1), (.int .i64 b_2), (.int .i64 x104.1)] (.tup [I, .b]) fun (x162 : Int × Bool × Unit) =>
 mif (decide ((w64 (x162.1 - a_1)) < (w64 (b_2 - x162.1))))
 (mcall P n_slices_pdqsortOrdered_string [(Sl.v data_0), (.int .i64 a_1), (.int .i64 x162.1), (.int .i64 limit_3)] (.tup []) fun (x163 : Unit) =>
 c1 (w64 (x162.1 + 1), b_2, limit_3, decide ((w64 (x162.1 - a_1)) ≥ (w64 ((w64 (b_2 - a_1)).tdiv 8))), x162.2.1, ()) (data_0, ()))
 (mcall P n_slices_pdqsortOrdered_string [(Sl.v data_0), (.int .i64 (w64 (x162.1 + 1))), (.int .i64 b_2), (.int .i64 limit_3)] (.tup []) fun (x164 : Unit) =>
 c1 (a_1, x162.1, limit_3, decide ((w64 (b_2 - x162.1)) ≥ (w64 ((w64 (b_2 - a_1)).tdiv 8))), x162.2.1, ()) (data_0, ()))))
 (mcall P n_slices_partitionOrdered_string [(Sl.v data_0), (.int .i64 a_1), (.int .i64 b_2), (.int .i64 x104.1)] (.tup [I, .b]) fun (x165 : Int × Bool × Unit) =>
 mif (decide ((w64 (x165.1 - a_1)) < (w64 (b_2 - x165.1))))
 (mcall P n_slices_pdqsortOrdered_string [(Sl.v data_0), (.int .i64 a_1), (.int .i64 x165.1), (.int .i64 limit_3)] (.tup []) fun (x166 : Unit) =>
 c1 (w64 (x165.1 + 1), b_2, limit_3, decide ((w64 (x165.1 - a_1)) ≥ (w64 ((w64 (b_2 - a_1)).tdiv 8))), x165.2.1, ()) (data_0, ()))
 (mcall P n_slices_pdqsortOrdered_string [(Sl.v data_0), (.int .i64 (w64 (x165.1 + 1))), (.int .i64 b_2), (.int .i64 limit_3)] (.tup []) fun (x167 : Unit) =>
 c1 (a_1, x165.1, limit_3, decide ((w64 (b_2 - x165.1)) ≥ (w64 ((w64 (b_2 - a_1)).tdiv 8))), x165.2.1, ()) (data_0, ())))))
 (mdraw <|
 mif (decide (a_1 > 0))
 (ixa P t_sl_string (Sl.v data_0) (w64 (a_1 - 1)) fun (x168 : Addr) =>
 ld P t_string x168 .s fun (x169 : Bs) =>
 ixa P t_sl_string (Sl.v data_0) x104.1 fun (x170 : Addr) =>
 ld P t_string x170 .s fun (x171 : Bs) =>
 mcall P n_cmp_Less_string [(.string ⟨x169.toArray⟩), (.string ⟨x171.toArray⟩)] .b fun (x172 : Bool) =>
 mif (!x172)
 (mcall P n_slices_partitionEqualOrdered_string [(Sl.v data_0), (.int .i64 a_1), (.int .i64 b_2), (.int .i64 x104.1)] I fun (x173 : Int) =>
 c1 (x173, b_2, limit_3, wasBalanced_8, wasPartitioned_9, ()) (data_0, ()))
 (mcall P n_slices_partitionOrdered_string [(Sl.v data_0), (.int .i64 a_1), (.int .i64 b_2), (.int .i64 x104.1)] (.tup [I, .b]) fun (x174 : Int × Bool × Unit) =>
 mif (decide ((w64 (x174.1 - a_1)) < (w64 (b_2 - x174.1))))
 (mcall P n_slices_pdqsortOrdered_string [(Sl.v data_0), (.int .i64 a_1), (.int .i64 x174.1), (.int .i64 limit_3)] (.tup []) fun (x175 : Unit) =>
 c1 (w64 (x174.1 + 1), b_2, limit_3, decide ((w64 (x174.1 - a_1)) ≥ (w64 ((w64 (b_2 - a_1)).tdiv 8))), x174.2.1, ()) (data_0, ()))
 (mcall P n_slices_pdqsortOrdered_string [(Sl.v data_0), (.int .i64 (w64 (x174.1 + 1))), (.int .i64 b_2), (.int .i64 limit_3)] (.tup []) fun (x176 : Unit) =>
 c1 (a_1, x174.1, limit_3, decide ((w64 (b_2 - x174.1)) ≥ (w64 ((w64 (b_2 - a_1)).tdiv 8))), x174.2.1, ()) (data_0, ()))))
 (mcall P n_slices_partitionOrdered_string [(Sl.v data_0), (.int .i64 a_1), (.int .i64 b_2), (.int .i64 x104.1)] (.tup [I, .b]) fun (x177 : Int × Bool × Unit) =>
 mif (decide ((w64 (x177.1 - a_1)) < (w64 (b_2 - x177.1))))
 (mcall P n_slices_pdqsortOrdered_string [(Sl.v data_0), (.int .i64 a_1), (.int .i64 x177.1), (.int .i64 limit_3)] (.tup []) fun (x178 : Unit) =>
 c1 (w64 (x177.1 + 1), b_2, limit_3, decide ((w64 (x177.1 - a_1)) ≥ (w64 ((w64 (b_2 - a_1)).tdiv 8))), x177.2.1, ()) (data_0, ()))
 (mcall P n_slices_pdqsortOrdered_string [(Sl.v data_0), (.int .i64 (w64 (x177.1 + 1))), (.int .i64 b_2), (.int .i64 limit_3)] (.tup []) fun (x179 : Unit) =>
 c1 (a_1, x177.1, limit_3, decide ((w64 (b_2 - x177.1)) ≥ (w64 ((w64 (b_2 - a_1)).tdiv 8))), x177.2.1, ()) (data_0, ())))))
 (mdraw <|
 mif (decide (a_1 > 0))
 (ixa P t_sl_string (Sl.v data_0) (w64 (a_1 - 1)) fun (x180 : Addr) =>
 ld P t_string x180 .s fun (x181 : Bs) =>
 ixa P t_sl_string (Sl.v data_0) x104.1 fun (x182 : Addr) =>
 ld P t_string x182 .s fun (x183 : Bs) =>
 mcall P n_cmp_Less_string [(.string ⟨x181.toArray⟩), (.string ⟨x183.toArray⟩)] .b fun (x184 : Bool) =>
 mif (!x184)
 (mcall P n_slices_partitionEqualOrdered_string [(Sl.v data_0), (.int .i64 a_1), (.int .i64 b_2), (.int .i64 x104.1)] I fun (x185 : Int) =>
 c1 (x185, b_2, limit_3, wasBalanced_8, wasPartitioned_9, ()) (data_0, ()))
 (mcall P n_slices_partitionOrdered_string [(Sl.v data_0), (.int .i64 a_1), (.int .i64 b_2), (.int .i64 x104.1)] (.tup [I, .b]) fun (x186 : Int × Bool × Unit) =>
 mif (decide ((w64 (x186.1 - a_1)) < (w64 (b_2 - x186.1))))
 (mcall P n_slices_pdqsortOrdered_string [(Sl.v data_0), (.int .i64 a_1), (.int .i64 x186.1), (.int .i64 limit_3)] (.tup []) fun (x187 : Unit) =>
 c1 (w64 (x186.1 + 1), b_2, limit_3, decide ((w64 (x186.1 - a_1)) ≥ (w64 ((w64 (b_2 - a_1)).tdiv 8))), x186.2.1, ()) (data_0, ()))
 (mcall P n_slices_pdqsortOrdered_string [(Sl.v data_0), (.int .i64 (w64 (x186.1 + 1))), (.int .i64 b_2), (.int .i64 limit_3)] (.tup []) fun (x188 : Unit) =>
 c1 (a_1, x186.1, limit_3, decide ((w64 (b_2 - x186.1)) ≥ (w64 ((w64 (b_2 - a_1)).tdiv 8))), x186.2.1, ()) (data_0, ()))))
 (mcall P n_slices_partitionOrdered_string [(Sl.v data_0), (.int .i64 a_1), (.int .i64 b_2), (.int .i64 x104.1)] (.tup [I, .b]) fun (x189 : Int × Bool × Unit) =>
 mif (decide ((w64 (x189.1 - a_1)) < (w64 (b_2 - x189.1))))
 (mcall P n_slices_pdqsortOrdered_string [(Sl.v data_0), (.int .i64 a_1), (.int .i64 x189.1), (.int .i64 limit_3)] (.tup []) fun (x190 : Unit) =>
 c1 (w64 (x189.1 + 1), b_2, limit_3, decide ((w64 (x189.1 - a_1)) ≥ (w64 ((w64 (b_2 - a_1)).tdiv 8))), x189.2.1, ()) (data_0, ()))
 (mcall P n_slices_pdqsortOrdered_string [(Sl.v data_0), (.int .i64 (w64 (x189.1 + 1))), (.int .i64 b_2), (.int .i64 limit_3)] (.tup []) fun (x191 : Unit) =>
 c1 (a_1, x189.1, limit_3, decide ((w64 (b_2 - x189.1)) ≥ (w64 ((w64 (b_2 - a_1)).tdiv 8))), x189.2.1, ()) (data_0, ())))))
 (mdraw <|
 mif (decide (a_1 > 0))
 (ixa P t_sl_string (Sl.v data_0) (w64 (a_1 - 1)) fun (x192 : Addr) =>
 ld P t_string x192 .s fun (x193 : Bs) =>
 ixa P t_sl_string (Sl.v data_0) x104.1 fun (x194 : Addr) =>
 ld P t_string x194 .s fun (x195 : Bs) =>
 mcall P n_cmp_Less_string [(.string ⟨x193.toArray⟩), (.string ⟨x195.toArray⟩)] .b fun (x196 : Bool) =>
 mif (!x196)
 (mcall P n_slices_partitionEqualOrdered_string [(Sl.v data_0), (.int .i64 a_1), (.int .i64 b_2), (.int .i64 x104.1)] I fun (x197 : Int) =>
 c1 (x197, b_2, limit_3, wasBalanced_8, wasPartitioned_9, ()) (data_0, ()))
 (mcall P n_slices_partitionOrdered_string [(Sl.v data_0), (.int .i64 a_1), (.int .i64 b_2), (.int .i64 x104.1)] (.tup [I, .b]) fun (x198 : Int × Bool × Unit) =>
 mif (decide ((w64 (x198.1 - a_1)) < (w64 (b_2 - x198.1))))
 (mcall P n_slices_pdqsortOrdered_string [(Sl.v data_0), (.int .i64 a_1), (.int .i64 x198.1), (.int .i64 limit_3)] (.tup []) fun (x199 : Unit) =>
 c1 (w64 (x198.1 + 1), b_2, limit_3, decide ((w64 (x198.1 - a_1)) ≥ (w64 ((w64 (b_2 - a_1)).tdiv 8))), x198.2.1, ()) (data_0, ()))
 (mcall P n_slices_pdqsortOrdered_string [(Sl.v data_0), (.int .i64 (w64 (x198.1 + 1))), (.int .i64 b_2), (.int .i64 limit_3)] (.tup []) fun (x200 : Unit) =>
 c1 (a_1, x198.1, limit_3, decide ((w64 (b_2 - x198.1)) ≥ (w64 ((w64 (b_2 - a_1)).tdiv 8))), x198.2.1, ()) (data_0, ()))))
 (mcall P n_slices_partitionOrdered_string [(Sl.v data_0), (.int .i64 a_1), (.int .i64 b_2), (.int .i64 x104.1)] (.tup [I, .b]) fun (x201 : Int × Bool × Unit) =>
 mif (decide ((w64 (x201.1 - a_1)) < (w64 (b_2 - x201.1))))
 (mcall P n_slices_pdqsortOrdered_string [(Sl.v data_0), (.int .i64 a_1), (.int .i64 x201.1), (.int .i64 limit_3)] (.tup []) fun (x202 : Unit) =>
 c1 (w64 (x201.1 + 1), b_2, limit_3, decide ((w64 (x201.1 - a_1)) ≥ (w64 ((w64 (b_2 - a_1)).tdiv 8))), x201.2.1, ()) (data_0, ()))
 (mcall P n_slices_pdqsortOrdered_string [(Sl.v data_0), (.int .i64 (w64 (x201.1 + 1))), (.int .i64 b_2), (.int .i64 limit_3)] (.tup []) fun (x203 : Unit) =>
 c1 (a_1, x201.1, limit_3, decide ((w64 (b_2 - x201.1)) ≥ (w64 ((w64 (b_2 - a_1)).tdiv 8))), x201.2.1, ()) (data_0, ()))))))))
def slices_pdqsortOrdered_string_1 (R : Unit → World → Prop) (a_1 : Int) (b_2 : Int) (limit_3 : Int) (wasBalanced_8 : Bool) (wasPartitioned_9 : Bool) (data_0 : Sl) : World → Prop :=
 W.Loop (data_0, ()) (fun (c1 : (Int × Int × Int × Bool × Bool × Unit) → (Sl × Unit) → World → Prop) (s : Int × Int × Int × Bool × Bool × Unit) => slices_pdqsortOrdered_string_2 c1 R s.1 s.2.1 s.2.2.1 s.2.2.2.1 s.2.2.2.2.1 data_0) (a_1, b_2, limit_3, wasBalanced_8, wasPartitioned_9, ())
def slices_pdqsortOrdered_string_0 (R : Unit → World → Prop) (data_0 : Sl) (a_1 : Int) (b_2 : Int) (limit_3 : Int) : World → Prop :=
 slices_pdqsortOrdered_string_1 R a_1 b_2 limit_3 true true data_0
theorem slices_pdqsortOrdered_string_2_ok (c1 : (Int × Int × Int × Bool × Bool × Unit) → (Sl × Unit) → World → Prop) (R : Unit → World → Prop) (a_1 : Int) (b_2 : Int) (limit_3 : Int) (wasBalanced_8 : Bool) (wasPartitioned_9 : Bool) (data_0 : Sl) (w : World) (h : slices_pdqsortOrdered_string_2 c1 R a_1 b_2 limit_3 wasBalanced_8 wasPartitioned_9 data_0 w) : WPC P 134 [] (Code.at slices_pdqsortOrdered_string_B [.snd, .snd, .blk, .blk]) (thenQ (fun env => getE env slices_pdqsortOrdered_string_l2 fun (s : Int × Int × Int × Bool × Bool × Unit) => getE env slices_pdqsortOrdered_string_l3 (c1 s)) (blockQ 0 ((topQ P [] (.tup []) R) .normal) (topQ P [] (.tup []) R))) (mkE2 134 slices_pdqsortOrdered_string_l2 slices_pdqsortOrdered_string_l3 (a_1, b_2, limit_3, wasBalanced_8, wasPartitioned_9, ()) (data_0, ())) w :=
  pc_end (T := slices_pdqsortOrdered_string_2 c1 R a_1 b_2 limit_3 wasBalanced_8 wasPartitioned_9 data_0 w) hmix (by kernel_rfl) h
theorem slices_pdqsortOrdered_string_1_ok (R : Unit → World → Prop) (a_1 : Int) (b_2 : Int) (limit_3 : Int) (wasBalanced_8 : Bool) (wasPartitioned_9 : Bool) (data_0 : Sl) (w : World) (h : slices_pdqsortOrdered_string_1 R a_1 b_2 limit_3 wasBalanced_8 wasPartitioned_9 data_0 w) : WPC P 134 [] (Code.at slices_pdqsortOrdered_string_B [.snd, .snd]) (topQ P [] (.tup []) R) (mkE2 134 slices_pdqsortOrdered_string_l2 slices_pdqsortOrdered_string_l3 (a_1, b_2, limit_3, wasBalanced_8, wasPartitioned_9, ()) (data_0, ())) w :=
  pc_loopE (l := slices_pdqsortOrdered_string_l2) (l' := slices_pdqsortOrdered_string_l3) (body := fun (c1 : (Int × Int × Int × Bool × Bool × Unit) → (Sl × Unit) → World → Prop) (s : Int × Int × Int × Bool × Bool × Unit) => slices_pdqsortOrdered_string_2 c1 R s.1 s.2.1 s.2.2.1 s.2.2.2.1 s.2.2.2.2.1 data_0) (id := 0) (b := (Code.at slices_pdqsortOrdered_string_B [.snd, .snd, .blk, .blk])) (by kernel_rfl) (fun c1 s w h => slices_pdqsortOrdered_string_2_ok c1 R s.1 s.2.1 s.2.2.1 s.2.2.2.1 s.2.2.2.2.1 data_0 w h) h
theorem slices_pdqsortOrdered_string_0_ok (R : Unit → World → Prop) (data_0 : Sl) (a_1 : Int) (b_2 : Int) (limit_3 : Int) (w : World) (h : slices_pdqsortOrdered_string_0 R data_0 a_1 b_2 limit_3 w) : WPC P 134 [] (Code.at slices_pdqsortOrdered_string_B []) (topQ P [] (.tup []) R) (mkE 134 slices_pdqsortOrdered_string_l1 (data_0, a_1, b_2, limit_3, ())) w :=
  pc_cut2 (T := slices_pdqsortOrdered_string_0 R data_0 a_1 b_2 limit_3 w) (l := slices_pdqsortOrdered_string_l2) (l' := slices_pdqsortOrdered_string_l3) (F := fun (x : Int × Int × Int × Bool × Bool × Unit) (y : Sl × Unit) => slices_pdqsortOrdered_string_1 R x.1 x.2.1 x.2.2.1 x.2.2.2.1 x.2.2.2.2.1 y.1) hmix 2 (mkE_len ..) (by kernel_rfl) (fun x y w h => slices_pdqsortOrdered_string_1_ok R x.1 x.2.1 x.2.2.1 x.2.2.2.1 x.2.2.2.2.1 y.1 w h) (by kernel_rfl) h
theorem slices_pdqsortOrdered_string_call (R : Unit → World → Prop) (data_0 : Sl) (a_1 : Int) (b_2 : Int) (limit_3 : Int) (w : World) (h : slices_pdqsortOrdered_string_0 R data_0 a_1 b_2 limit_3 w) : mcall P n_slices_pdqsortOrdered_string [(Sl.v data_0), (.int .i64 a_1), (.int .i64 b_2), (.int .i64 limit_3)] (.tup []) R w :=
  pc_top (T := (slices_pdqsortOrdered_string_0 R data_0 a_1 b_2 limit_3) w) (l := slices_pdqsortOrdered_string_l1) (F := fun (x : Sl × Int × Int × Int × Unit) => slices_pdqsortOrdered_string_0 R x.1 x.2.1 x.2.2.1 x.2.2.2.1) (n := 134) (c := slices_pdqsortOrdered_string_B) Tryz.func131 rfl (by kernel_rfl) (by kernel_rfl) (by kernel_rfl) (fun x w h => slices_pdqsortOrdered_string_0_ok R x.1 x.2.1 x.2.2.1 x.2.2.2.1 w h) (by kernel_rfl) h
/- math bits.Len -/
noncomputable abbrev math_bits_Len_B : Code := (Tryz.f132.body).getD .skip
abbrev math_bits_Len_l1 : Slots := [(0, (.i .u64))]
def math_bits_Len_0 (R : Int → World → Prop) (x_0 : Int) : World → Prop :=
 mcall P n_math_bits_Len64 [(.int .u64 x_0)] I fun (x1 : Int) =>
 R x1
theorem math_bits_Len_0_ok (R : Int → World → Prop) (x_0 : Int) (w : World) (h : math_bits_Len_0 R x_0 w) : WPC P 8 [] (Code.at math_bits_Len_B []) (topQ P [.tmp 2] I R) (mkE 8 math_bits_Len_l1 (x_0, ())) w :=
  pc_end (T := math_bits_Len_0 R x_0 w) hmix (by kernel_rfl) h
theorem math_bits_Len_call (R : Int → World → Prop) (x_0 : Int) (w : World) (h : math_bits_Len_0 R x_0 w) : mcall P n_math_bits_Len [(.int .u64 x_0)] I R w :=
  pc_top (T := (math_bits_Len_0 R x_0) w) (l := math_bits_Len_l1) (F := fun (x : Int × Unit) => math_bits_Len_0 R x.1) (n := 8) (c := math_bits_Len_B) Tryz.func132 rfl (by kernel_rfl) (by kernel_rfl) (by kernel_rfl) (fun x w h => math_bits_Len_0_ok R x.1 w h) (by kernel_rfl) h
end Go.Proofs.YtegjokkkdkaphaaGreatDoor
