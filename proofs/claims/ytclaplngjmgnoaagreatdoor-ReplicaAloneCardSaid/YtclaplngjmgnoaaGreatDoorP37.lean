/- Part 37 of the proof: texts U33d. -/
import Derived.Test.YtclaplngjmgnoaaGreatDoorP35
set_option linter.all false
namespace Go.Proofs.YtclaplngjmgnoaaGreatDoor
set_option maxRecDepth 100000
open Go.RowKit Go.V
variable {g : Gv}
theorem qB : SX g 279 [.c (cS (S [116, 101, 120, 116])), .c (cS (S [45]))] (y15) :=
 sX nFQ nFQ nFQ (T := []) (cs := []) (by kernel_rfl) trivial
theorem yY : SX g 200 [.c (cS (S [116, 101, 120, 116])), .c (cS (S [45])), .c (cM 3 fA), .c (cM 2 [[.s (S [97]), .i 1], [.s (S [98]), .i 1]])] (y16) :=
 sX nFQ nFQ nFQ (T := [aL 279 [⟨_, _, qB⟩]]) (cs := []) (by kernel_rfl) trivial
theorem aNZ (row : SV) : SX g 287 (apI [116, 101, 120, 116] [45] (.c (.d (nlD))) row) (oN (S [45])) :=
 sX nFQ (nFQ) nFQ (T := [aL 200 [⟨_, _, yY⟩], aL 279 [⟨_, _, qB⟩]]) (cs := []) (by kernel_rfl) trivial
theorem bS : SX g 279 [.c (cS (S [117, 112, 112, 101, 114])), .c (cS (S []))] (y15) :=
 sX nFQ nFQ nFQ (T := []) (cs := []) (by kernel_rfl) trivial
theorem bF : SX g 200 [.c (cS (S [117, 112, 112, 101, 114])), .c (cS (S [])), .c (cM 3 fA), .c (cM 2 [[.s (S [97]), .i 1], [.s (S [98]), .i 1]])] (y17 [[.i 1]]) :=
 sX nFQ nFQ nFQ (T := [aL 279 [⟨_, _, bS⟩]]) (cs := []) (by kernel_rfl) trivial
theorem apUp0 (row : SV) : SX g 287 (apI [117, 112, 112, 101, 114] [] (.c (cM 7 [[.i 1, .s (S [65]), .i 0, .i 0, .i 0, .sl 1 [], .sl 1 []]])) row) (oN (S [65])) :=
 sX nFQ (nFQ) nFQ (T := [aL 200 [⟨_, _, bF⟩], aL 279 [⟨_, _, bS⟩]]) (cs := []) (by kernel_rfl) trivial
theorem apUp1 (row : SV) : SX g 287 (apI [117, 112, 112, 101, 114] [] (.c (cM 7 [[.i 1, .s (S [66]), .i 0, .i 0, .i 0, .sl 1 [], .sl 1 []]])) row) (oN (S [66])) :=
 sX nFQ (nFQ) nFQ (T := [aL 200 [⟨_, _, bF⟩], aL 279 [⟨_, _, bS⟩]]) (cs := []) (by kernel_rfl) trivial
theorem apUp2 (row : SV) : SX g 287 (apI [117, 112, 112, 101, 114] [] (.c (cM 7 [[.i 1, .s (S [97]), .i 0, .i 0, .i 0, .sl 1 [], .sl 1 []]])) row) (oN (S [65])) :=
 sX nFQ (nFQ) nFQ (T := [aL 200 [⟨_, _, bF⟩], aL 279 [⟨_, _, bS⟩]]) (cs := []) (by kernel_rfl) trivial
theorem apUp3 (row : SV) : SX g 287 (apI [117, 112, 112, 101, 114] [] (.c (cM 7 [[.i 1, .s (S [97, 49]), .i 0, .i 0, .i 0, .sl 1 [], .sl 1 []]])) row) (oN (S [65, 49])) :=
 sX nFQ (nFQ) nFQ (T := [aL 200 [⟨_, _, bF⟩], aL 279 [⟨_, _, bS⟩]]) (cs := []) (by kernel_rfl) trivial
theorem apUp4 (row : SV) : SX g 287 (apI [117, 112, 112, 101, 114] [] (.c (cM 7 [[.i 1, .s (S [49, 50, 45, 120]), .i 0, .i 0, .i 0, .sl 1 [], .sl 1 []]])) row) (oN (S [49, 50, 45, 88])) :=
 sX nFQ (nFQ) nFQ (T := [aL 200 [⟨_, _, bF⟩], aL 279 [⟨_, _, bS⟩]]) (cs := []) (by kernel_rfl) trivial
theorem apUp5 (row : SV) : SX g 287 (apI [117, 112, 112, 101, 114] [] (.c (cM 7 [[.i 1, .s (S []), .i 0, .i 0, .i 0, .sl 1 [], .sl 1 []]])) row) (oN (S [])) :=
 sX nFQ (nFQ) nFQ (T := [aL 200 [⟨_, _, bF⟩], aL 279 [⟨_, _, bS⟩]]) (cs := []) (by kernel_rfl) trivial
theorem apUp6 (row : SV) : SX g 287 (apI [117, 112, 112, 101, 114] [] (.c (cM 7 [[.i 1, .s (S [72, 73, 71, 72]), .i 0, .i 0, .i 0, .sl 1 [], .sl 1 []]])) row) (oN (S [72, 73, 71, 72])) :=
 sX nFQ (nFQ) nFQ (T := [aL 200 [⟨_, _, bF⟩], aL 279 [⟨_, _, bS⟩]]) (cs := []) (by kernel_rfl) trivial
theorem apUp7 (row : SV) : SX g 287 (apI [117, 112, 112, 101, 114] [] (.c (cM 7 [[.i 1, .s (S [88, 49]), .i 0, .i 0, .i 0, .sl 1 [], .sl 1 []]])) row) (oN (S [88, 49])) :=
 sX nFQ (nFQ) nFQ (T := [aL 200 [⟨_, _, bF⟩], aL 279 [⟨_, _, bS⟩]]) (cs := []) (by kernel_rfl) trivial
theorem apUp8 (row : SV) : SX g 287 (apI [117, 112, 112, 101, 114] [] (.c (cM 7 [[.i 1, .s (S [45]), .i 0, .i 0, .i 0, .sl 1 [], .sl 1 []]])) row) (oN (S [45])) :=
 sX nFQ (nFQ) nFQ (T := [aL 200 [⟨_, _, bF⟩], aL 279 [⟨_, _, bS⟩]]) (cs := []) (by kernel_rfl) trivial
theorem apUp9 (row : SV) : SX g 287 (apI [117, 112, 112, 101, 114] [] (.c (cM 7 [[.i 1, .s (S [49]), .i 0, .i 0, .i 0, .sl 1 [], .sl 1 []]])) row) (oN (S [49])) :=
 sX nFQ (nFQ) nFQ (T := [aL 200 [⟨_, _, bF⟩], aL 279 [⟨_, _, bS⟩]]) (cs := []) (by kernel_rfl) trivial
theorem apUp10 (row : SV) : SX g 287 (apI [117, 112, 112, 101, 114] [] (.c (cM 7 [[.i 1, .s (S [49, 50]), .i 0, .i 0, .i 0, .sl 1 [], .sl 1 []]])) row) (oN (S [49, 50])) :=
 sX nFQ (nFQ) nFQ (T := [aL 200 [⟨_, _, bF⟩], aL 279 [⟨_, _, bS⟩]]) (cs := []) (by kernel_rfl) trivial
theorem apUpE16 (row : SV) : SX g 287 (apI [117, 112, 112, 101, 114] [] (.c (cM 7 [[.i 0, .s (S []), .i 0, .i 0, .i 16, .sl 1 [], .sl 1 []]])) row) (oE 16) :=
 sX nFQ (nFQ) nFQ (T := [aL 200 [⟨_, _, bF⟩]]) (cs := []) (by kernel_rfl) trivial
theorem apUpE18 (row : SV) : SX g 287 (apI [117, 112, 112, 101, 114] [] (.c (cM 7 [[.i 0, .s (S []), .i 0, .i 0, .i 18, .sl 1 [], .sl 1 []]])) row) (oE 18) :=
 sX nFQ (nFQ) nFQ (T := [aL 200 [⟨_, _, bF⟩]]) (cs := []) (by kernel_rfl) trivial
theorem cP : SX g 279 [.c (cS (S [101, 120, 116, 114, 97, 99, 116])), .c (cS (S [92, 100, 43, 35, 49]))] (.tup [(true, [.d (nlD), cI 0, cI 1, cI 0, cI 0, cM 4 [[.i 1, .i 1, .i 200, .s (S [])]]]), (false, [cB true])]) :=
 sX nFQ nFQ nFQ (T := []) (cs := []) (by kernel_rfl) trivial
theorem bW : SX g 200 [.c (cS (S [101, 120, 116, 114, 97, 99, 116])), .c (cS (S [92, 100, 43, 35, 49])), .c (cM 3 fA), .c (cM 2 [[.s (S [97]), .i 1], [.s (S [98]), .i 1]])] (y17 [[.i 1]]) :=
 sX nFQ nFQ nFQ (T := [aL 279 [⟨_, _, cP⟩]]) (cs := []) (by kernel_rfl) trivial
theorem apEx0 (row : SV) : SX g 287 (apI [101, 120, 116, 114, 97, 99, 116] [92, 100, 43, 35, 49] (.c (cM 7 [[.i 1, .s (S [65]), .i 0, .i 0, .i 0, .sl 1 [], .sl 1 []]])) row) (oE 18) :=
 sX nFQ (nFQ) nFQ (T := [aL 200 [⟨_, _, bW⟩], aL 279 [⟨_, _, cP⟩]]) (cs := []) (by kernel_rfl) trivial
theorem apEx1 (row : SV) : SX g 287 (apI [101, 120, 116, 114, 97, 99, 116] [92, 100, 43, 35, 49] (.c (cM 7 [[.i 1, .s (S [66]), .i 0, .i 0, .i 0, .sl 1 [], .sl 1 []]])) row) (oE 18) :=
 sX nFQ (nFQ) nFQ (T := [aL 200 [⟨_, _, bW⟩], aL 279 [⟨_, _, cP⟩]]) (cs := []) (by kernel_rfl) trivial
theorem apEx2 (row : SV) : SX g 287 (apI [101, 120, 116, 114, 97, 99, 116] [92, 100, 43, 35, 49] (.c (cM 7 [[.i 1, .s (S [97]), .i 0, .i 0, .i 0, .sl 1 [], .sl 1 []]])) row) (oE 18) :=
 sX nFQ (nFQ) nFQ (T := [aL 200 [⟨_, _, bW⟩], aL 279 [⟨_, _, cP⟩]]) (cs := []) (by kernel_rfl) trivial
theorem apEx3 (row : SV) : SX g 287 (apI [101, 120, 116, 114, 97, 99, 116] [92, 100, 43, 35, 49] (.c (cM 7 [[.i 1, .s (S [97, 49]), .i 0, .i 0, .i 0, .sl 1 [], .sl 1 []]])) row) (oN (S [49])) :=
 sX nFQ (nFQ) nFQ (T := [aL 200 [⟨_, _, bW⟩], aL 279 [⟨_, _, cP⟩]]) (cs := []) (by kernel_rfl) trivial
theorem apEx4 (row : SV) : SX g 287 (apI [101, 120, 116, 114, 97, 99, 116] [92, 100, 43, 35, 49] (.c (cM 7 [[.i 1, .s (S [49, 50, 45, 120]), .i 0, .i 0, .i 0, .sl 1 [], .sl 1 []]])) row) (oN (S [49, 50])) :=
 sX nFQ (nFQ) nFQ (T := [aL 200 [⟨_, _, bW⟩], aL 279 [⟨_, _, cP⟩]]) (cs := []) (by kernel_rfl) trivial
theorem apEx5 (row : SV) : SX g 287 (apI [101, 120, 116, 114, 97, 99, 116] [92, 100, 43, 35, 49] (.c (cM 7 [[.i 1, .s (S []), .i 0, .i 0, .i 0, .sl 1 [], .sl 1 []]])) row) (oE 18) :=
 sX nFQ (nFQ) nFQ (T := [aL 200 [⟨_, _, bW⟩], aL 279 [⟨_, _, cP⟩]]) (cs := []) (by kernel_rfl) trivial
theorem apEx6 (row : SV) : SX g 287 (apI [101, 120, 116, 114, 97, 99, 116] [92, 100, 43, 35, 49] (.c (cM 7 [[.i 1, .s (S [72, 73, 71, 72]), .i 0, .i 0, .i 0, .sl 1 [], .sl 1 []]])) row) (oE 18) :=
 sX nFQ (nFQ) nFQ (T := [aL 200 [⟨_, _, bW⟩], aL 279 [⟨_, _, cP⟩]]) (cs := []) (by kernel_rfl) trivial
theorem apEx7 (row : SV) : SX g 287 (apI [101, 120, 116, 114, 97, 99, 116] [92, 100, 43, 35, 49] (.c (cM 7 [[.i 1, .s (S [88, 49]), .i 0, .i 0, .i 0, .sl 1 [], .sl 1 []]])) row) (oN (S [49])) :=
 sX nFQ (nFQ) nFQ (T := [aL 200 [⟨_, _, bW⟩], aL 279 [⟨_, _, cP⟩]]) (cs := []) (by kernel_rfl) trivial
theorem apEx8 (row : SV) : SX g 287 (apI [101, 120, 116, 114, 97, 99, 116] [92, 100, 43, 35, 49] (.c (cM 7 [[.i 1, .s (S [45]), .i 0, .i 0, .i 0, .sl 1 [], .sl 1 []]])) row) (oE 18) :=
 sX nFQ (nFQ) nFQ (T := [aL 200 [⟨_, _, bW⟩], aL 279 [⟨_, _, cP⟩]]) (cs := []) (by kernel_rfl) trivial
theorem apExE16 (row : SV) : SX g 287 (apI [101, 120, 116, 114, 97, 99, 116] [92, 100, 43, 35, 49] (.c (cM 7 [[.i 0, .s (S []), .i 0, .i 0, .i 16, .sl 1 [], .sl 1 []]])) row) (oE 16) :=
 sX nFQ (nFQ) nFQ (T := [aL 200 [⟨_, _, bW⟩]]) (cs := []) (by kernel_rfl) trivial
end Go.Proofs.YtclaplngjmgnoaaGreatDoor
