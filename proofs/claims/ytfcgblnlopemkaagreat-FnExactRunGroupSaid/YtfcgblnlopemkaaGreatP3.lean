/- Texts of the proof, packed: part 4. -/
import Derived.Test.YtfcgblnlopemkaaGreatP2
import Derived.Test.YtfcgblnlopemkaaGreatProg
import Derived.Shelf.SlLaysE0
import Derived.Shelf.RegionOpenPlain
import Derived.WalkKit
import Derived.Deep.LoopGhost
import Derived.Lib.Walk
import Derived.Lib.SliceRun
import Derived.Shelf.Lays2
import Derived.Lib.JoinLaws
import Derived.Lib.AppendZeros
import Derived.Lib.Overlaps
import Derived.Laws.Externs
import Derived.Laws.IdiomCopy
import Derived.Laws.CopyRow
import Derived.Maps.AppendAt
import Derived.Shelf.Small.Strs
import Derived.Shelf.Spec.SlicesInsert
import Derived.Shelf.SlicesE.DeleteFunc
set_option linter.unusedVariables false
set_option linter.unusedSimpArgs false
namespace Go.Proofs.YtfcgblnlopemkaaGreat.Core
open Go IntKind
set_option maxRecDepth 100000
noncomputable section
def ZJ:AH:=(.s (.R [.m 6 5,.m 7 0,.len 8 false 7,.b 9 .lss 6 8] [0,1,5,9] (.cond 9 .k (.exit 0))) (.s (.b 1 [0,1,5] (.R [.m 12 0,.m 13 5,.idx 14 1 12 13,.l 15 14,.m 16 1,.b 17 .eql 15 16] [0,1,5,17] (.cond 17 (.R [.mv 4 .V] [4] .e) .k))) (.r [.m 10 5,.bin 11 .add 10 (.i 1),.m 5 11] [0,1,5])))
def ZK:AH:=(.R [.mv 4 .F] [4] .e)
def GQ:BI:=⟨[.val .S,.val .W],[⟨4,false,.bool⟩],(.R [.mv 4 .F] [0,1] (.s (.R [.mv 5 (.i 0)] [0,1,5] (.b 0 [] (.loop [0,1,5] ZJ))) ZK))⟩
theorem uy:At Tryz.prog 76 GQ=true:=by kernel_rfl
def ZL:DT:=(.sk 88 false 11 75 100 (.tk 76 [.pick 100 88 .V 99] .z))
def XE:DT:=(.sk 81 false 5 62 87 (.tk 64 [.m 88 87,.pick 87 81 .V 86] ZL))
def XF:DT:=(.sk 73 false 3 52 77 (.sk 76 true 2 54 79 (.sk 73 false 1 55 80 (.tk 57 [.m 81 80,.pick 80 73 .V 79] XE))))
def XG:DT:=(.sk 68 false 3 47 72 (.tk 49 [.m 73 72,.pick 72 68 .V 71] XF))
def XH:DT:=(.sk 62 false 4 42 67 (.tk 44 [.m 68 67,.pick 67 62 .V 66] XG))
def XI:DT:=(.sk 57 false 3 36 61 (.tk 38 [.m 62 61,.pick 61 57 .V 60] XH))
def XJ:DT:=(.sk 49 false 3 28 53 (.sk 52 true 2 30 55 (.sk 49 false 1 31 56 (.tk 33 [.m 57 56,.pick 56 49 .V 55] XI))))
def XK:DT:=(.sk 44 false 3 23 48 (.tk 25 [.m 49 48,.pick 48 44 .V 47] XJ))
def XL:DT:=(.sk 38 false 4 18 43 (.tk 20 [.m 44 43,.pick 43 38 .V 42] XK))
def XM:DT:=(.sk 33 false 3 12 37 (.tk 14 [.m 38 37,.pick 37 33 .V 36] XL))
def XN:DT:=(.tg 81 false 62 [.b 86 .gtr 83 85,.len 85 false 84,.m 84 1,.l 83 82,.f 82 6 1] (.tk 64 [.m 88 87,.pick 87 81 .V 86] (.test 88 ZL (.tg 88 false 75 [.b 99 .neq 96 98,.l 98 97,.f 97 6 0,.l 96 95,.idx 95 1 94 (.i 0),.l 94 93,.idx 93 1 89 92,.bin 92 .sub 91 (.i 1),.l 91 90,.f 90 6 1,.m 89 1] (.tk 76 [.pick 100 88 .V 99] .z)))))
def VJ:DT:=(.tg 57 false 34 [.m 58 3] (.only 34 (some (57,false)) (.cx (some 59) [58,.c (.int .i64 0),.c (.int .i64 1000)] BE) false [] (.tg 57 false 36 [.un 60 .not 59] (.tk 38 [.m 62 61,.pick 61 57 .V 60] (.test 62 XH (.tg 62 false 40 [.len 64 true 63,.m 63 4] (.only 40 (some (62,false)) (.cx (some 65) [64,.c (.int .i64 1),.c (.int .i64 12)] BE) false [] (.tg 62 false 42 [.un 66 .not 65] (.tk 44 [.m 68 67,.pick 67 62 .V 66] (.test 68 XG (.tg 68 false 47 [.bin 71 .gtr 70 (.i 20),.len 70 true 69,.m 69 5] (.tk 49 [.m 73 72,.pick 72 68 .V 71] (.test 73 XF (.tg 73 false 52 [.m 76 75,.bin 75 .eql 74 (.i 2),.m 74 2] (.test 76 (.tg 76 true 54 [.bin 78 .neq 77 (.c (.str ⟨#[]⟩)),.m 77 5] (.tg 73 false 55 [.pick 79 76 78 .F] (.tk 57 [.m 81 80,.pick 80 73 .V 79] (.test 81 XE XN)))) (.sk 76 true 2 54 79 (.tg 73 false 55 [.pick 79 76 78 .F] (.tk 57 [.m 81 80,.pick 80 73 .V 79] XN))))))))))))))))))
def N0:AH:=(.s (.R [.m 160 21,.m 161 20,.len 162 false 161,.b 163 .lss 160 162] [2,6,12,16,17,18,19,20,21,163] (.cond 163 .k (.exit 0))) (.s (.b 1 [2,6,12,16,17,18,19,20,21] (.s (.s (.D 7 [(1,[]),(2,[0,1]),(4,[]),(6,[3,5])] (.tk 7 [.b 172 .eql 169 171,.l 171 170,.f 170 6 0,.l 169 168,.idx 168 1 166 167,.m 167 21,.m 166 20] .z) [2,6,12,16,17,18,19,20,21,172]) (.cond 172 (.exit 1) .k)) (.s (.D 13 [(2,[]),(3,[]),(4,[2,3]),(6,[]),(8,[]),(10,[1,5,7,9]),(11,[]),(12,[10,11])] (.tk 11 [.bu 183 AI [(0,1,.c (.int .i64 7)),(1,1,174),(2,1,178),(3,1,180),(4,1,182)],.l 182 181,.f 181 18 8,.l 180 179,.f 179 6 1,.l 178 177,.idx 177 1 175 176,.m 176 21,.m 175 20,.l 174 173,.f 173 6 0] (.O 11 (.al 22 AI) false [] (.O 12 (.store 22 183 6 false) false [] .z))) [2,6,12,16,17,18,19,20,21,22]) (.seqc [2,6,12,16,17,18,19,20,21,22] (.R [.m 184 2,.bin 185 .eql 184 (.i 1)] [2,6,12,16,17,18,19,20,21,22,185] (.cond 185 (.R [.f 186 22 0,.store 186 (.i 5) 1 false] [2,6,12,16,17,18,19,20,21,22] (.r [.ls 187 19 3,.brow 188 70 AG [187],.f 189 22 5,.store 189 188 1 false] [2,6,12,16,17,18,19,20,21,22])) .k)) (.r [.m 190 16,.ls 191 22 6,.blst 192 AI [191],.app 193 90 AI 190 192,.m 16 193] [2,6,12,16,17,18,19,20,21]))))) (.r [.m 164 21,.bin 165 .add 164 (.i 1),.m 21 165] [2,6,12,16,17,18,19,20,21])))
def VK:AH:=(.R [.ls 194 18 16,.m 195 16,.m 196 17,.store 12 194 16 false,.m 13 195,.m 14 196,.mv 15 .V] [12,13,14,15] .e)
def N1:AH:=(.R [.m 134 1,.f 135 6 1,.l 136 135,.bin 137 .sub 136 (.i 1),.idx 138 1 134 137,.l 139 138,.m 20 139] [2,3,6,12,16,17,18,19,20] (.s (.D 12 [(1,[]),(2,[]),(4,[]),(5,[]),(6,[]),(8,[5,7]),(9,[0,1,3,4,8])] (.tk 8 [.l 147 146,.f 146 6 0,.m 145 20,.ls 144 19 3,.l 143 142,.f 142 18 8,.m 141 3,.m 140 2] (.O 8 (.cl 148 [145,147] Uw) false [] (.tk 11 [.f 150 18 9,.bu 149 Gk [(0,1,140),(1,1,141),(2,1,143),(3,3,144),(6,1,148)]] (.O 11 (.store 150 149 7 false) false [] .z)))) [2,6,12,16,17,18,19,20]) (.s (.R [.f 151 18 9,.f 152 151 6,.l 153 152,.len 154 false 153,.bin 155 .eql 154 (.i 0)] [2,6,12,16,17,18,19,20,155] (.cond 155 (.R [.cl 156 [18] Ux,.m 17 156] [12,16,17,18] (.R [.ls 157 18 16,.m 158 16,.m 159 17,.store 12 157 16 false,.m 13 158,.m 14 159,.mv 15 .V] [12,13,14,15] .e)) .k)) (.s (.R [.mv 21 (.i 0)] [2,6,12,16,17,18,19,20,21] (.b 0 [12,16,17,18] (.loop [2,6,12,16,17,18,19,20,21] N0))) VK))))
def VL:AH:=(.R [.ls 104 6 16,.cl 105 [104] G7,.al 18 AB,.store 18 105 16 false] [1,2,3,4,5,6,12,16,17,18] (.R [.f 106 6 8,.l 107 106,.bin 108 .add 107 (.i 1),.f 109 18 8,.store 109 108 1 false] [1,2,3,4,5,6,12,16,17,18] (.R [.m 110 4,.m 111 5,.f 112 6 1,.l 113 112,.bin 114 .mul (.i 1000) 113,.f 115 18 8,.l 116 115,.b 117 .add 114 116,.bu 118 AG [(0,1,110),(1,1,111),(2,1,117)],.al 19 AG,.store 19 118 3 false] [1,2,3,4,6,12,16,17,18,19] (.s (.s (.D 12 [(5,[2]),(6,[4,5]),(7,[2]),(8,[6,7]),(9,[2]),(10,[8,9])] (.tk 3 [.m 121 120,.bin 120 .eql 119 (.i 1),.m 119 2] (.test 121 (.tg 121 true 6 [.ls 124 19 3,.l 123 122,.f 122 6 7] (.tg 121 true 8 [.m 126 4] (.tg 121 true 10 [.ls 128 19 3] (.only 6 (some (121,true)) (.cl 125 [123,124] RJ) false [] (.only 8 (some (121,true)) (.cl 127 [125,126] cO) false [] (.tg 121 true 11 [.eqs 129 true AG 127 128] (.tk 12 [.pick 130 121 129 .F] .z))))))) (.sk 121 true 8 11 130 (.tk 12 [.pick 130 121 129 .F] .z)))) [1,2,3,6,12,16,17,18,19,130]) (.cond 130 (.R [.bu 131 AB [],.m 132 16,.m 133 17,.store 12 131 16 false,.m 13 132,.m 14 133,.mv 15 .F] [12,13,14,15] .e) .k)) N1))))
def B7:BI:=⟨[.val AB,.val (.slice .S),.val .W,.val .W,.val .str,.val .str],[⟨12,true,AB⟩,⟨13,false,(.slice AI)⟩,⟨14,false,(.slice BD)⟩,⟨15,false,.bool⟩],(.R [.box 6 0 false,.al 12 AB,.mv 13 .z,.mv 14 .z,.mv 15 .F] [1,2,3,4,5,6,12] (.R [.brow 23 90 AI [],.m 16 23] [1,2,3,4,5,6,12,16] (.R [.blst 24 BD [],.m 17 24] [1,2,3,4,5,6,12,16,17] (.s (.s (.D 76 [(59,[56]),(61,[58,60]),(65,[63]),(68,[64,67]),(72,[63]),(74,[71,73])] (.tk 1 [.ls 25 6 16] (.O 1 (.cl 26 [25] PZ) false [] (.tk 4 [.m 28 27,.un 27 .not 26] (.test 28 (.sk 28 false 3 7 32 (.tk 9 [.m 33 32,.pick 32 28 .V 31] XM)) (.tg 28 false 5 [.m 29 1] (.only 5 (some (28,false)) (.cl 30 [29] Iz) false [] (.tg 28 false 7 [.un 31 .not 30] (.tk 9 [.m 33 32,.pick 32 28 .V 31] (.test 33 XM (.tg 33 false 12 [.un 36 .not 35,.l 35 34,.f 34 6 5] (.tk 14 [.m 38 37,.pick 37 33 .V 36] (.test 38 XL (.tg 38 false 18 [.bin 42 .neq 41 (.i 0),.l 41 40,.f 40 39 0,.f 39 6 9] (.tk 20 [.m 44 43,.pick 43 38 .V 42] (.test 44 XK (.tg 44 false 23 [.bin 47 .geq 46 (.i 900),.l 46 45,.f 45 6 8] (.tk 25 [.m 49 48,.pick 48 44 .V 47] (.test 49 XJ (.tg 49 false 28 [.m 52 51,.bin 51 .neq 50 (.i 1),.m 50 2] (.test 52 (.tg 52 true 30 [.bin 54 .neq 53 (.i 2),.m 53 2] (.tg 49 false 31 [.pick 55 52 54 .F] (.tk 33 [.m 57 56,.pick 56 49 .V 55] (.test 57 XI VJ)))) (.sk 52 true 2 30 55 (.tg 49 false 31 [.pick 55 52 54 .F] (.tk 33 [.m 57 56,.pick 56 49 .V 55] VJ))))))))))))))))))))))) [1,2,3,4,5,6,12,16,17,100]) (.cond 100 (.R [.bu 101 AB [],.m 102 16,.m 103 17,.store 12 101 16 false,.m 13 102,.m 14 103,.mv 15 .F] [12,13,14,15] .e) .k)) VL))))⟩
theorem uz:At Tryz.prog 77 B7=true:=by kernel_rfl
def ZM:DT:=(.sk 37 false 10 32 48 (.tk 33 [.pick 48 37 .V 47] .z))
def XO:DT:=(.sk 31 false 4 20 36 (.tk 22 [.m 37 36,.pick 36 31 .V 35] ZM))
def XP:DT:=(.sk 24 false 5 14 30 (.tk 16 [.m 31 30,.pick 30 24 .V 29] XO))
def XQ:DT:=(.sk 60 true 8 18 69 (.tk 20 [.m 10 69,.pick 69 60 68 .F] .z))
def XR:AH:=(.s (.R [.m 90 13,.m 91 1,.m 92 2,.bin 93 .sub 92 (.i 2),.idx 94 1 91 93,.l 95 94,.len 96 false 95,.b 97 .lss 90 96] [1,2,3,6,9,11,13,97] (.cond 97 .k (.exit 0))) (.s (.b 1 [1,2,3,6,9,11,13] (.R [.m 100 1,.m 101 2,.bin 102 .sub 101 (.i 2),.idx 103 1 100 102,.l 104 103,.m 105 13,.idx 106 1 104 105,.l 107 106,.m 14 107] [1,2,3,6,9,11,13,14] (.R [.m 108 14,.f 109 3 0,.l 110 109,.b 111 .neq 108 110] [1,2,3,6,9,11,13,14,111] (.cond 111 (.r [.m 112 9,.f 113 3 0,.l 114 113,.m 115 14,.m 116 2,.bu 117 AI [(0,1,.c (.int .i64 1)),(1,1,114),(2,1,115),(3,1,116)],.blst 118 AI [117],.app 119 90 AI 112 118,.m 9 119] [1,2,3,6,9,11,13]) .k)))) (.r [.m 98 13,.bin 99 .add 98 (.i 1),.m 13 99] [1,2,3,6,9,11,13])))
def XS:AH:=(.R [.ls 120 11 16,.cl 121 [120] G7,.m 122 9,.store 6 121 16 false,.m 7 122,.mv 8 .V] [6,7,8] .e)
def XT:AH:=(.s (.D 10 [(2,[]),(3,[]),(4,[]),(6,[3,5]),(7,[1,2,6]),(8,[]),(9,[7,8])] (.tk 3 [.m 72 2,.l 71 70,.f 70 3 0] (.tk 6 [.l 75 74,.f 74 3 7] (.O 3 (.brow 73 70 AG []) false [(8,.al 11 AB)] (.O 6 (.apz 76 70 AG 73 75) false [(8,.al 11 AB)] (.tk 8 [.bu 77 AB [(0,1,71),(1,1,72),(4,1,.V),(7,1,76)]] (.O 8 (.al 11 AB) true [] (.O 9 (.store 11 77 16 false) false [] .z))))))) [1,2,3,6,9,10,11]) (.s (.R [.m 78 10] [1,2,3,6,9,11,78] (.cond 78 (.s (.D 9 [(1,[]),(3,[0,2]),(5,[]),(7,[4,6])] (.tk 7 [.l 85 84,.f 84 3 7,.l 83 82,.idx 82 1 79 81,.bin 81 .sub 80 (.i 1),.m 80 2,.m 79 1] (.O 7 (.cl 86 [11,83,85] cQ) false [] (.tk 9 [.m 12 86] .z))) [6,11,12]) (.R [.ls 87 11 16,.cl 88 [87] G7,.m 89 12,.store 6 88 16 false,.m 7 89,.mv 8 .V] [6,7,8] .e)) .k)) (.s (.R [.mv 13 (.i 0)] [1,2,3,6,9,11,13] (.b 0 [6,9,11] (.loop [1,2,3,6,9,11,13] XR))) XS)))
def XU:AH:=(.s (.D 20 [(5,[2]),(7,[4,6]),(11,[9]),(13,[10,12]),(15,[9]),(17,[14,16])] (.tk 3 [.m 53 52,.l 52 51,.f 51 3 3] (.test 53 (.tg 53 true 8 [.b 58 .eql 55 57,.bin 57 .sub 56 (.i 1),.m 56 2,.l 55 54,.f 54 3 1] (.tk 10 [.m 60 59,.pick 59 53 58 .F] (.test 60 (.tg 60 true 17 [.l 67 66,.f 66 3 0,.l 65 64,.idx 64 1 61 63,.bin 63 .sub 62 (.i 2),.m 62 2,.m 61 1] (.only 17 (some (60,true)) (.cl 68 [65,67] Hd) false [] (.tk 20 [.m 10 69,.pick 69 60 68 .F] .z))) XQ))) (.sk 53 true 5 8 59 (.tk 10 [.m 60 59,.pick 59 53 58 .F] XQ)))) [1,2,3,6,9,10]) XT)
def C3:BI:=⟨[.val AB,.val (.slice .S),.val .W],[⟨6,true,AB⟩,⟨7,false,(.slice AI)⟩,⟨8,false,.bool⟩],(.R [.box 3 0 false,.al 6 AB,.mv 7 .z,.mv 8 .F] [1,2,3,6] (.R [.brow 15 90 AI [],.m 9 15] [1,2,3,6,9] (.s (.s (.D 33 [(10,[8]),(12,[9,11]),(17,[15]),(19,[16,18]),(23,[21]),(25,[22,24]),(29,[21]),(31,[28,30])] (.tk 1 [.ls 16 3 16] (.O 1 (.cl 17 [16] PZ) false [] (.tk 4 [.m 19 18,.un 18 .not 17] (.test 19 (.sk 19 false 3 7 23 (.tk 9 [.m 24 23,.pick 23 19 .V 22] XP)) (.tg 19 false 5 [.m 20 1] (.only 5 (some (19,false)) (.cl 21 [20] Iz) false [] (.tg 19 false 7 [.un 22 .not 21] (.tk 9 [.m 24 23,.pick 23 19 .V 22] (.test 24 XP (.tg 24 false 12 [.len 27 false 26,.m 26 1,.m 25 2] (.only 12 (some (24,false)) (.cx (some 28) [25,.c (.int .i64 2),27] BE) false [] (.tg 24 false 14 [.un 29 .not 28] (.tk 16 [.m 31 30,.pick 30 24 .V 29] (.test 31 XO (.tg 31 false 20 [.b 35 .leq 32 34,.l 34 33,.f 33 3 1,.m 32 2] (.tk 22 [.m 37 36,.pick 36 31 .V 35] (.test 37 ZM (.tg 37 false 32 [.b 47 .neq 44 46,.l 46 45,.f 45 3 0,.l 44 43,.idx 43 1 42 (.i 0),.l 42 41,.idx 41 1 38 40,.bin 40 .sub 39 (.i 1),.m 39 2,.m 38 1] (.tk 33 [.pick 48 37 .V 47] .z))))))))))))))))))) [1,2,3,6,9,48]) (.cond 48 (.R [.bu 49 AB [],.m 50 9,.store 6 49 16 false,.m 7 50,.mv 8 .F] [6,7,8] .e) .k)) XU)))⟩
theorem u5:At Tryz.prog 78 C3=true:=by kernel_rfl
def VM:DT:=(.sk 95 true 9 25 105 (.tk 26 [.pick 105 95 104 .F] .z))
def TF:DT:=(.sk 91 true 2 14 94 (.tk 16 [.m 95 94,.pick 94 91 93 .F] VM))
def TG:AH:=(.cond 105 (.R [.ls 106 3 16,.f 107 5 3,.l 108 107,.cl 109 [106,108] ZB,.al 12 AB,.store 12 109 16 false] [3,5,6,11,12] (.s (.D 17 [(1,[]),(3,[]),(5,[]),(7,[]),(8,[]),(10,[7,9]),(11,[2,4,6,10]),(13,[]),(14,[0,10]),(15,[12,14]),(16,[13,15])] (.tk 7 [.l 116 115,.f 115 5 3,.l 114 113,.f 113 5 1,.l 112 111,.f 111 3 0,.ls 110 12 16] (.tk 10 [.l 119 118,.f 118 3 7] (.tk 14 [.m 123 11] (.O 7 (.brow 117 70 AG []) false [] (.O 10 (.apz 120 70 AG 117 119) false [] (.tk 12 [.bu 121 AI [(0,1,.c (.int .i64 2)),(1,1,112),(2,1,114),(3,1,116),(5,1,120)]] (.O 14 (.store 6 110 16 false) false [(12,.brow 122 90 AI [121])] (.O 12 (.brow 122 90 AI [121]) true [] (.tk 17 [.m 8 123,.m 7 122] .z))))))))) [6,7,8]) .e)) .k)
def TH:DT:=(.sk 139 true 6 16 146 (.tk 17 [.pick 146 139 145 .F] .z))
def TI:AH:=(.cond 146 (.s (.D 11 [(2,[]),(4,[]),(5,[]),(7,[4,6]),(8,[1,3,7]),(9,[]),(10,[8,9])] (.tk 4 [.l 150 149,.f 149 5 3,.l 148 147,.f 147 3 0] (.tk 7 [.l 153 152,.f 152 5 5] (.O 4 (.brow 151 70 AG []) false [(9,.al 14 AB)] (.O 7 (.apz 154 70 AG 151 153) false [(9,.al 14 AB)] (.tk 9 [.bu 155 AB [(0,1,148),(1,1,150),(3,1,.V),(7,1,154)]] (.O 9 (.al 14 AB) true [] (.O 10 (.store 14 155 16 false) false [] .z))))))) [3,5,6,11,14]) (.s (.D 8 [(1,[]),(2,[]),(3,[1,2]),(4,[]),(5,[0,3]),(7,[4,6])] (.tk 3 [.ls 158 5 6,.ls 157 3 16,.ls 156 14 16] (.tk 5 [.m 160 11] (.O 3 (.cx (some 159) [157,158,.c (.int .i64 4)] Ko) false [] (.O 5 (.store 6 156 16 false) false [] (.tk 8 [.m 8 160,.m 7 159] .z))))) [6,7,8]) .e)) .k)
def TJ:AH:=(.R [.ls 161 9 16,.m 162 10,.m 163 11,.store 6 161 16 false,.m 7 162,.m 8 163] [6,7,8] .e)
def MV:AH:=(.R [.m 124 1,.f 125 5 3,.l 126 125,.bin 127 .sub 126 (.i 1),.idx 128 1 124 127,.l 129 128,.m 13 129] [3,5,6,9,10,11,13] (.s (.s (.D 17 [(5,[3]),(7,[4,6]),(13,[9]),(15,[12,14])] (.tk 4 [.m 133 132,.bin 132 .eql 131 (.i 3),.l 131 130,.f 130 5 0] (.test 133 (.tg 133 true 7 [.l 136 135,.f 135 3 0,.m 134 13] (.only 7 (some (133,true)) (.cl 137 [134,136] Hd) false [] (.tk 10 [.m 139 138,.pick 138 133 137 .F] (.test 139 (.tg 139 true 16 [.b 145 .neq 142 144,.l 144 143,.f 143 3 0,.l 142 141,.idx 141 1 140 (.i 0),.m 140 13] (.tk 17 [.pick 146 139 145 .F] .z)) TH)))) (.sk 133 true 4 8 138 (.tk 10 [.m 139 138,.pick 138 133 137 .F] TH)))) [3,5,6,9,10,11,146]) TI) TJ))
def TK:AH:=(.s (.R [.f 63 5 3,.l 64 63,.f 65 3 1,.l 66 65,.b 67 .eql 64 66] [1,3,5,6,9,10,11,67] (.cond 67 (.s (.D 15 [(1,[]),(2,[]),(5,[1,4]),(7,[]),(8,[0,6,7]),(10,[8]),(11,[8]),(12,[9,10,11])] (.tk 8 [.ls 75 5 6,.l 74 73,.idx 73 1 69 72,.bin 72 .sub 71 (.i 1),.l 71 70,.f 70 3 1,.m 69 1,.ls 68 3 16] (.O 8 (.cl 76 [68,74,75] sn) false [] (.tk 12 [.ext 79 76 2,.ext 78 76 1,.ext 77 76 0] (.O 12 (.store 6 77 16 false) false [] (.tk 15 [.m 8 79,.m 7 78] .z))))) [6,7,8]) .e) .k)) (.s (.s (.D 26 [(6,[3]),(9,[5,8]),(17,[15]),(20,[16,19]),(22,[15]),(24,[21,23])] (.tk 4 [.m 83 82,.bin 82 .eql 81 (.i 1),.l 81 80,.f 80 5 0] (.test 83 (.tg 83 true 10 [.b 89 .eql 85 88,.bin 88 .add 87 (.i 1),.l 87 86,.f 86 3 1,.l 85 84,.f 84 5 3] (.tk 12 [.m 91 90,.pick 90 83 89 .F] (.test 91 (.tg 91 true 14 [.l 93 92,.f 92 3 3] (.tk 16 [.m 95 94,.pick 94 91 93 .F] (.test 95 (.tg 95 true 24 [.l 103 102,.f 102 3 0,.l 101 100,.idx 100 1 96 99,.bin 99 .sub 98 (.i 1),.l 98 97,.f 97 3 1,.m 96 1] (.only 24 (some (95,true)) (.cl 104 [101,103] Hd) false [] (.tk 26 [.pick 105 95 104 .F] .z))) VM))) TF))) (.sk 83 true 6 10 90 (.tk 12 [.m 91 90,.pick 90 83 89 .F] TF)))) [1,3,5,6,9,10,11,105]) TG) MV))
def Bx:BI:=⟨[.val AB,.val (.slice .S),.val AI],[⟨6,true,AB⟩,⟨7,false,(.slice AI)⟩,⟨8,false,(.slice BD)⟩],(.R [.box 3 0 false,.box 5 2 false,.al 6 AB,.mv 7 .z,.mv 8 .z] [1,3,5,6] (.R [.ls 15 3 16,.cl 16 [15] G7,.al 9 AB,.store 9 16 16 false] [1,3,5,6,9] (.R [.blst 17 AI [],.m 10 17] [1,3,5,6,9,10] (.R [.blst 18 BD [],.m 11 18] [1,3,5,6,9,10,11] (.s (.R [.ls 19 3 16,.cl 20 [19] PZ,.un 21 .not 20,.m 22 21,.sc 22 false [.m 23 1,.cl 24 [23] Iz,.un 25 .not 24] 26 .V 25,.m 27 26,.sc 27 false [.ls 28 5 6,.cl 29 [28] ur,.un 30 .not 29] 31 .V 30,.m 32 31,.sc 32 false [.f 33 5 2,.l 34 33,.f 35 3 0,.l 36 35,.b 37 .neq 34 36] 38 .V 37,.m 39 38,.sc 39 false [.f 40 5 3,.l 41 40,.f 42 3 1,.l 43 42,.b 44 .lss 41 43] 45 .V 44,.m 46 45,.sc 46 false [.f 47 5 3,.l 48 47,.m 49 1,.len 50 false 49,.b 51 .gtr 48 50] 52 .V 51,.m 53 52,.sc 53 false [.f 54 3 1,.l 55 54,.m 56 1,.len 57 false 56,.b 58 .gtr 55 57] 59 .V 58] [1,3,5,6,9,10,11,59] (.cond 59 (.R [.ls 60 9 16,.m 61 10,.m 62 11,.store 6 60 16 false,.m 7 61,.m 8 62] [6,7,8] .e) .k)) TK)))))⟩
theorem qw:At Tryz.prog 79 Bx=true:=by kernel_rfl
def KX:AH:=(.R [.b 9 .lss 8 7] [0,1,7,8,9] (.s (.cond 9 .k (.exit 0)) (.s (.b 1 [0,1,7,8] (.R [.m 10 8,.m 5 10] [0,1,5,7,8] (.R [.m 11 1,.m 12 0,.m 13 5,.idx 14 1 12 13,.l 15 14,.b 16 .eql 11 15] [0,1,5,7,8,16] (.cond 16 (.R [.m 17 5,.m 4 17] [4] .e) .k)))) (.r [.bin 18 .add 8 (.i 1),.m 8 18] [0,1,7,8]))))
def KY:AH:=(.R [.mv 4 (.c (.int .i64 (-1)))] [4] .e)
def By:BI:=⟨[.val .S,.val .W],[⟨4,false,.W⟩],(.R [.mv 4 (.i 0)] [0,1] (.s (.R [.m 6 0,.len 7 false 6,.mv 8 (.i 0)] [0,1,7,8] (.b 0 [] (.loop [0,1,7,8] KX))) KY))⟩
theorem We:At Tryz.prog 80 By=true:=by kernel_rfl
def Dy:BI:=⟨[.val .S,.val .W],[⟨4,false,.bool⟩],(.R [.mv 4 .F] [0,1] (.R [.m 5 0,.m 6 1,.cl 7 [5,6] MH,.bin 8 .geq 7 (.i 0),.m 4 8] [4] .e))⟩
theorem SX:At Tryz.prog 82 Dy=true:=by kernel_rfl
def Qt:BI:=⟨[.val .str],[⟨2,false,.bool⟩],(.R [.mv 2 .F] [0] (.R [.m 3 0,.len 4 true 3,.cx (some 5) [4,.c (.int .i64 1),.c (.int .i64 12)] BF,.m 2 5] [2] .e))⟩
theorem u6:At Tryz.prog 83 Qt=true:=by kernel_rfl
def ZN:DT:=(.O 4 (.store 12 106 16 false) false [] (.tk 8 [.mv 15 .V,.mv 14 .z,.m 13 109] .z))
def ZO:AH:=(.s (.R [.m 100 18,.len 101 false 100,.bin 102 .eql 101 (.i 0)] [12,16,18,20,102] (.cond 102 (.R [.cl 103 [16] RK,.m 21 103] [12,16,21] (.R [.ls 104 16 16,.m 105 21,.store 12 104 16 false,.mv 13 .z,.m 14 105,.mv 15 .V] [12,13,14,15] .e)) .k)) (.s (.D 8 [(1,[]),(2,[]),(3,[1,2]),(4,[0,3])] (.tk 3 [.ls 108 20 6,.m 107 18] (.fork 0 (.ls 106 16 16) (.O 3 (.cl 109 [16,107,108] Bm) false [] ZN) 3 (.cl 109 [16,107,108] Bm) (.tk 1 [.ls 106 16 16] ZN))) [12,13,14,15]) .e))
def XV:AH:=(.R [.m 71 1,.f 72 6 1,.l 73 72,.bin 74 .sub 73 (.i 1),.idx 75 1 71 74,.l 76 75,.cl 77 [16,76] GO,.m 18 77] [2,3,12,16,17,18] (.R [.m 78 18,.cl 79 [78] BX,.m 19 79] [2,3,12,16,17,18,19] (.R [.m 80 19,.cl 81 [80] NN] [2,3,12,16,17,18,19] (.R [.m 82 2,.m 83 3,.f 84 16 8,.l 85 84,.ls 86 17 3,.m 87 19,.bu 88 Gk [(0,1,82),(1,1,83),(2,1,85),(3,3,86),(6,1,87)],.f 89 16 9,.store 89 88 7 false] [2,12,16,17,18] (.R [.f 90 16 8,.l 91 90,.bu 92 AI [(0,1,.c (.int .i64 7)),(4,1,91)],.al 20 AI,.store 20 92 6 false] [2,12,16,17,18,20] (.seqc [12,16,18,20] (.R [.m 93 2,.bin 94 .eql 93 (.i 1)] [12,16,17,18,20,94] (.cond 94 (.r [.f 95 16 8,.l 96 95,.ls 97 17 3,.brow 98 70 AG [97],.bu 99 AI [(0,1,.c (.int .i64 5)),(4,1,96),(5,1,98)],.store 20 99 6 false] [12,16,18,20]) .k)) ZO))))))
def XW:AH:=(.R [.ls 39 6 16,.cl 40 [39] Ib,.al 16 AB,.store 16 40 16 false] [1,2,3,4,5,6,12,16] (.R [.f 41 16 8,.l 42 41,.bin 43 .add 42 (.i 1),.f 44 16 8,.store 44 43 1 false] [1,2,3,4,5,6,12,16] (.R [.m 45 4,.m 46 5,.f 47 6 1,.l 48 47,.bin 49 .mul (.i 1000) 48,.f 50 16 8,.l 51 50,.b 52 .add 49 51,.bu 53 AG [(0,1,45),(1,1,46),(2,1,52)],.al 17 AG,.store 17 53 3 false] [1,2,3,4,6,12,16,17] (.s (.R [.m 54 2,.bin 55 .eql 54 (.i 1),.m 56 55,.sc 56 true [.f 57 6 7,.l 58 57,.len 59 false 58,.bin 60 .eql 59 (.i 12)] 61 60 .F,.m 62 61,.sc 62 true [.f 63 6 7,.l 64 63,.m 65 4,.cl 66 [64,65] cR,.bu 67 AG [],.eqs 68 false AG 66 67] 69 68 .F] [1,2,3,6,12,16,17,69] (.cond 69 (.R [.bu 70 AB [],.store 12 70 16 false,.mv 13 .z,.mv 14 .z,.mv 15 .F] [12,13,14,15] .e) .k)) XV))))
def EF:BI:=⟨[.val AB,.val (.slice .S),.val .W,.val .W,.val .str,.val .str],[⟨12,true,AB⟩,⟨13,false,(.slice AI)⟩,⟨14,false,(.slice BD)⟩,⟨15,false,.bool⟩],(.R [.box 6 0 false,.al 12 AB,.mv 13 .z,.mv 14 .z,.mv 15 .F] [1,2,3,4,5,6,12] (.s (.R [.ls 22 6 16,.cl 23 [22] Pa,.un 24 .not 23,.m 25 24,.sc 25 false [.m 26 1,.cl 27 [6,26] Wc,.un 28 .not 27] 29 .V 28,.m 30 29,.sc 30 false [.m 31 2,.m 32 3,.m 33 4,.m 34 5,.cl 35 [31,32,33,34] f_,.un 36 .not 35] 37 .V 36] [1,2,3,4,5,6,12,37] (.cond 37 (.R [.bu 38 AB [],.store 12 38 16 false,.mv 13 .z,.mv 14 .z,.mv 15 .F] [12,13,14,15] .e) .k)) XW))⟩
theorem u7:At Tryz.prog 84 EF=true:=by kernel_rfl
def QB:AH:=(.s (.D 8 [(4,[]),(6,[3,5])] (.tk 8 [.m 10 54,.idx 54 9 51 53,.l 53 52,.f 52 9 0,.l 51 50,.f 50 49 3,.n 49 48,.m 48 0] .z) [0,3,9,10,20,21,22]) (.s (.D 24 [(1,[]),(2,[]),(3,[]),(4,[]),(5,[]),(8,[]),(10,[]),(12,[0,4]),(15,[1,7,14]),(18,[2,9,17]),(21,[3,11,20])] (.tk 14 [.f 68 67 4,.n 67 55,.l 66 65,.f 65 9 2,.l 64 63,.f 63 9 1,.l 62 61,.f 61 60 2,.f 60 9 3,.m 59 3,.m 58 10,.m 57 10,.m 56 10,.m 55 10] (.O 14 (.store 68 59 1 false) false [] (.tk 17 [.f 70 69 5,.n 69 56] (.O 17 (.store 70 62 1 false) false [] (.tk 20 [.f 72 71 6,.n 71 57] (.O 20 (.store 72 64 1 false) false [] (.tk 23 [.f 74 73 7,.n 73 58] (.O 23 (.store 74 66 1 false) false [] .z)))))))) [0,3,9,10,20,21,22]) (.R [.m 75 10,.n 76 75,.f 77 76 0,.l 78 77,.bin 79 .eql 78 (.i 2)] [0,3,9,10,20,21,22,79] (.cond 79 (.r [.m 80 10,.f 81 9 3,.f 82 81 1,.l 83 82,.n 84 80,.f 85 84 8,.store 85 83 1 false] [0,3,20,21,22]) .k))))
def QC:AH:=(.r [.bin 86 .add 22 (.i 1),.m 22 86] [0,3,20,21,22])
def QD:AH:=(.R [.b 23 .lss 22 21] [0,3,20,21,22,23] (.s (.cond 23 .k (.exit 0)) (.s (.b 1 [0,3,20,21,22] (.R [.idx 24 6 20 22,.ls 25 24 6,.al 9 BD,.store 9 25 6 false] [0,3,9,20,21,22] (.s (.s (.D 22 [(2,[]),(8,[1,7]),(15,[10]),(17,[14,16])] (.tk 8 [.bin 33 .sub 32 (.i 1),.len 32 false 31,.l 31 30,.f 30 29 3,.n 29 28,.m 28 0,.l 27 26,.f 26 9 0] (.O 8 (.cx (some 34) [27,.c (.int .i64 0),33] BF) false [] (.tk 11 [.m 36 35,.un 35 .not 34] (.test 36 (.sk 36 false 10 21 47 (.tk 22 [.pick 47 36 .V 46] .z)) (.tg 36 false 21 [.bin 46 .neq 45 (.c (.int .i64 (-1))),.l 45 44,.f 44 43 4,.idx 43 9 40 42,.l 42 41,.f 41 9 0,.l 40 39,.f 39 38 3,.n 38 37,.m 37 0] (.tk 22 [.pick 47 36 .V 46] .z)))))) [0,3,9,20,21,22,47]) (.cond 47 (.exit 1) .k)) QB))) QC)))
def CW:BI:=⟨[.ptr Az,.val (.slice AI),.val (.slice BD),.val .W],[],(.R [.m 11 0,.m 12 0,.n 13 12,.f 14 13 2,.l 15 14,.m 16 1,.app 17 90 AI 15 16,.n 18 11,.f 19 18 2,.store 19 17 1 false] [0,2,3] (.R [.m 20 2,.len 21 false 20,.mv 22 (.i 0)] [0,3,20,21,22] (.b 0 [] (.loop [0,3,20,21,22] QD))))⟩
theorem gI:At Tryz.prog 85 CW=true:=by kernel_rfl
def ZP:DT:=(.sk 33 false 10 32 44 (.tk 33 [.pick 44 33 .V 43] .z))
def XX:DT:=(.sk 27 false 4 20 32 (.tk 22 [.m 33 32,.pick 32 27 .V 31] ZP))
def XY:DT:=(.sk 20 false 5 14 26 (.tk 16 [.m 27 26,.pick 26 20 .V 25] XX))
def XZ:DT:=(.O 9 (.store 6 74 16 false) false [] (.tk 12 [.mv 8 .V,.m 7 82] .z))
def Xa:DT:=(.O 8 (.cl 82 [9,80,81] Bm) false [] XZ)
def Xb:AH:=(.R [.cl 57 [9] MJ] [1,2,6,9,10] (.R [.m 58 2,.f 59 9 1,.store 59 58 1 false,.f 60 9 2,.store 60 .F 1 false,.f 61 9 3,.store 61 .F 1 false,.f 62 9 4,.store 62 .V 1 false] [1,2,6,9,10] (.s (.R [.m 63 10] [1,2,6,9,63] (.cond 63 (.s (.D 9 [(1,[]),(3,[0,2]),(5,[]),(7,[4,6])] (.tk 7 [.l 70 69,.f 69 9 7,.l 68 67,.idx 67 1 64 66,.bin 66 .sub 65 (.i 1),.m 65 2,.m 64 1] (.O 7 (.cl 71 [9,68,70] MK) false [] (.tk 9 [.m 11 71] .z))) [6,9,11]) (.R [.ls 72 9 16,.m 73 11,.store 6 72 16 false,.m 7 73,.mv 8 .V] [6,7,8] .e)) .k)) (.s (.D 12 [(1,[]),(2,[]),(4,[1,3]),(7,[]),(8,[6,7]),(9,[0,8])] (.tk 6 [.l 79 78,.idx 78 1 75 77,.bin 77 .sub 76 (.i 2),.m 76 2,.m 75 1] (.tk 8 [.bu 81 AI [(0,1,.c (.int .i64 1))]] (.fork 0 (.ls 74 9 16) (.O 6 (.cl 80 [9,79] GO) false [] Xa) 6 (.cl 80 [9,79] GO) (.fork 0 (.ls 74 9 16) Xa 8 (.cl 82 [9,80,81] Bm) (.tk 1 [.ls 74 9 16] XZ))))) [6,7,8]) .e))))
def Xc:AH:=(.R [.ls 46 3 16,.cl 47 [46] Ib,.al 9 AB,.store 9 47 16 false] [1,2,3,6,9] (.R [.f 48 3 3,.l 49 48,.m 50 49,.sc 50 true [.f 51 3 1,.l 52 51,.m 53 2,.bin 54 .sub 53 (.i 1),.b 55 .eql 52 54] 56 55 .F,.m 10 56] [1,2,6,9,10] Xb))
def GR:BI:=⟨[.val AB,.val (.slice .S),.val .W],[⟨6,true,AB⟩,⟨7,false,(.slice AI)⟩,⟨8,false,.bool⟩],(.R [.box 3 0 false,.al 6 AB,.mv 7 .z,.mv 8 .F] [1,2,3,6] (.s (.s (.D 33 [(10,[8]),(12,[9,11]),(17,[15]),(19,[16,18]),(23,[21]),(25,[22,24]),(29,[21]),(31,[28,30])] (.tk 1 [.ls 12 3 16] (.O 1 (.cl 13 [12] Pa) false [] (.tk 4 [.m 15 14,.un 14 .not 13] (.test 15 (.sk 15 false 3 7 19 (.tk 9 [.m 20 19,.pick 19 15 .V 18] XY)) (.tg 15 false 5 [.m 16 1] (.only 5 (some (15,false)) (.cl 17 [16] I0) false [] (.tg 15 false 7 [.un 18 .not 17] (.tk 9 [.m 20 19,.pick 19 15 .V 18] (.test 20 XY (.tg 20 false 12 [.len 23 false 22,.m 22 1,.m 21 2] (.only 12 (some (20,false)) (.cx (some 24) [21,.c (.int .i64 2),23] BF) false [] (.tg 20 false 14 [.un 25 .not 24] (.tk 16 [.m 27 26,.pick 26 20 .V 25] (.test 27 XX (.tg 27 false 20 [.b 31 .leq 28 30,.l 30 29,.f 29 3 1,.m 28 2] (.tk 22 [.m 33 32,.pick 32 27 .V 31] (.test 33 ZP (.tg 33 false 32 [.b 43 .neq 40 42,.l 42 41,.f 41 3 0,.l 40 39,.idx 39 1 38 (.i 0),.l 38 37,.idx 37 1 34 36,.bin 36 .sub 35 (.i 1),.m 35 2,.m 34 1] (.tk 33 [.pick 44 33 .V 43] .z))))))))))))))))))) [1,2,3,6,44]) (.cond 44 (.R [.bu 45 AB [],.store 6 45 16 false,.mv 7 .z,.mv 8 .F] [6,7,8] .e) .k)) Xc))⟩
theorem u9:At Tryz.prog 86 GR=true:=by kernel_rfl
def DI:AH:=(.R [.b 9 .lss 8 7] [0,1,7,8,9] (.s (.cond 9 .k (.exit 0)) (.s (.b 1 [0,1,7,8] (.R [.m 10 8,.m 5 10] [0,1,5,7,8] (.R [.m 11 1,.m 12 0,.m 13 5,.idx 14 16 12 13,.ls 15 14 16,.call (some 16) 88 [(.t 15,.bor AB),(.t 11,.cap 88 .W)] [.bool]] [0,1,5,7,8,16] (.cond 16 (.R [.m 17 5,.m 4 17] [4] .e) .k)))) (.r [.bin 18 .add 8 (.i 1),.m 8 18] [0,1,7,8]))))
def DJ:AH:=(.R [.mv 4 (.c (.int .i64 (-1)))] [4] .e)
def Aa:BI:=⟨[.val (.slice AB),.val (.clo 88 .W)],[⟨4,false,.W⟩],(.R [.mv 4 (.i 0)] [0,1] (.s (.R [.m 6 0,.len 7 false 6,.mv 8 (.i 0)] [0,1,7,8] (.b 0 [] (.loop [0,1,7,8] DI))) DJ))⟩
theorem Hh:At Tryz.prog 87 Aa=true:=by kernel_rfl
def Fw:BI:=⟨[.val AB,.val .W],[⟨3,false,.bool⟩],(.R [.box 2 0 false,.mv 3 .F] [1,2] (.R [.f 4 2 0,.l 5 4,.l 6 1,.b 7 .eql 5 6,.m 3 7] [3] .e))⟩
theorem YU:At Tryz.prog 88 Fw=true:=by kernel_rfl
def GS:BI:=⟨[.ptr Az,.val .W,.val .W],[],(.R [.m 11 0,.n 12 11,.f 13 12 2,.l 14 13,.m 15 1,.idx 16 6 14 15,.ls 17 16 6,.al 6 AI,.store 6 17 6 false] [0,1,2,6] (.R [.m 18 0,.m 19 0,.n 20 19,.f 21 20 2,.l 22 21,.m 23 1,.m 24 1,.bin 25 .add 24 (.i 1),.cl 26 [22,23,25] F9,.n 27 18,.f 28 27 2,.store 28 26 1 false] [0,2,6] (.R [.m 29 0,.f 30 6 2,.l 31 30,.cl 32 [29,31] Gq,.m 7 32] [0,2,6,7] (.R [.m 33 7,.bin 34 .geq 33 (.i 0)] [0,2,6,7,34] (.cond 34 (.s (.D 21 [(4,[]),(5,[3,4]),(7,[]),(11,[]),(12,[6,10,11]),(15,[13]),(16,[13]),(17,[]),(18,[14,17]),(19,[15,18]),(20,[16,19])] (.tk 12 [.ls 47 6 6,.l 46 45,.f 45 44 0,.n 44 43,.m 43 0,.ls 42 41 16,.idx 41 16 39 40,.m 40 7,.l 39 38,.f 38 37 1,.n 37 36,.m 36 0] (.O 12 (.cl 48 [42,46,47] qd) false [(17,.al 8 AB)] (.tk 17 [.ext 51 35 2,.ext 50 35 1,.ext 49 35 0,.m 35 48] (.O 17 (.al 8 AB) true [] (.O 18 (.store 8 49 16 false) false [] (.tk 21 [.m 10 51,.m 9 50] .z)))))) [0,2,7,8,9,10]) (.s (.D 8 [(4,[]),(5,[]),(6,[3,4,5])] (.tk 7 [.idx 58 16 55 56,.ls 57 8 16,.m 56 7,.l 55 54,.f 54 53 1,.n 53 52,.m 52 0] (.O 7 (.store 58 57 16 false) false [] .z)) [0,2,9,10]) (.r [.m 59 0,.m 60 9,.m 61 10,.m 62 2,.cl 63 [59,60,61,62] MI] []))) .k)))))⟩
theorem ZQ:At Tryz.prog 89 GS=true:=by kernel_rfl
def VN:AH:=(.s (.R [.m 11 5,.m 12 0,.len 13 false 12,.b 14 .lss 11 13] [0,1,5,14] (.cond 14 .k (.exit 0))) (.s (.b 1 [0,1,5] (.s (.D 10 [(1,[]),(2,[0,1]),(4,[]),(5,[]),(6,[4,5]),(8,[3,7])] (.tk 8 [.ls 24 23 3,.idx 23 3 21 22,.m 22 5,.m 21 1,.ls 20 19 3,.idx 19 3 17 18,.m 18 5,.m 17 0] (.O 8 (.cl 25 [20,24] cS) false [] (.tk 10 [.un 26 .not 25] .z))) [0,1,5,26]) (.cond 26 (.R [.mv 4 .F] [4] .e) .k))) (.r [.m 15 5,.bin 16 .add 15 (.i 1),.m 5 16] [0,1,5])))
def VO:AH:=(.R [.mv 4 .V] [4] .e)
def ER:BI:=⟨[.val (.slice AG),.val (.slice AG)],[⟨4,false,.bool⟩],(.R [.mv 4 .F] [0,1] (.s (.R [.m 6 0,.len 7 false 6,.m 8 1,.len 9 false 8,.b 10 .neq 7 9] [0,1,10] (.cond 10 (.R [.mv 4 .F] [4] .e) .k)) (.s (.R [.mv 5 (.i 0)] [0,1,5] (.b 0 [] (.loop [0,1,5] VN))) VO)))⟩
theorem qx:At Tryz.prog 92 ER=true:=by kernel_rfl
def Oa:BI:=⟨[.val Gk,.val Gk],[⟨4,false,.bool⟩],(.R [.box 2 0 false,.box 3 1 false,.mv 4 .F] [2,3] (.s (.R [.f 5 2 0,.l 6 5,.f 7 3 0,.l 8 7,.b 9 .neq 6 8] [2,3,9] (.cond 9 (.R [.mv 4 .F] [4] .e) .k)) (.s (.R [.f 10 2 1,.l 11 10,.f 12 3 1,.l 13 12,.b 14 .neq 11 13] [2,3,14] (.cond 14 (.R [.mv 4 .F] [4] .e) .k)) (.s (.R [.f 15 2 2,.l 16 15,.f 17 3 2,.l 18 17,.b 19 .neq 16 18] [2,3,19] (.cond 19 (.R [.mv 4 .F] [4] .e) .k)) (.s (.R [.f 20 2 3,.ls 21 20 3,.f 22 3 3,.ls 23 22 3,.cl 24 [21,23] cS,.un 25 .not 24] [2,3,25] (.cond 25 (.R [.mv 4 .F] [4] .e) .k)) (.s (.R [.f 26 2 6,.l 27 26,.f 28 3 6,.l 29 28,.cl 30 [27,29] IJ,.un 31 .not 30] [31] (.cond 31 (.R [.mv 4 .F] [4] .e) .k)) (.R [.mv 4 .V] [4] .e)))))))⟩
theorem tB:At Tryz.prog 93 Oa=true:=by kernel_rfl
def TL:AH:=(.R [.f 71 1 9,.ls 72 71 7,.al 3 Gk,.store 3 72 7 false] [1,3] (.R [.ls 73 3 7,.cl 74 [73] j4,.m 75 74,.sc 75 false [.f 76 3 0,.l 77 76,.bin 78 .eql 77 (.i 1),.m 79 78,.sc 79 false [.f 80 3 0,.l 81 80,.bin 82 .eql 81 (.i 2)] 83 .V 82,.m 84 83,.sc 84 true [.f 85 1 5,.l 86 85] 87 86 .F,.m 88 87,.sc 88 true [.f 89 3 1,.l 90 89,.cx (some 91) [90,.c (.int .i64 0),.c (.int .i64 1000)] BE] 92 91 .F,.m 93 92,.sc 93 true [.f 94 3 2,.l 95 94,.cx (some 96) [95,.c (.int .i64 1),.c (.int .i64 900)] BE] 97 96 .F] 98 .V 97,.m 2 98] [2] .e))
def GG:BI:=⟨[.val AB],[⟨2,false,.bool⟩],(.R [.box 1 0 false,.mv 2 .F] [1] (.s (.R [.f 4 1 0,.l 5 4,.cx (some 6) [5,.c (.int .i64 1),.c (.int .i64 6)] BE,.un 7 .not 6,.m 8 7,.sc 8 false [.f 9 1 1,.l 10 9,.cx (some 11) [10,.c (.int .i64 1),.c (.int .i64 9)] BE,.un 12 .not 11] 13 .V 12,.m 14 13,.sc 14 false [.f 15 1 5,.l 16 15,.m 17 16,.sc 17 true [.f 18 1 3,.l 19 18,.un 20 .not 19,.m 21 20,.sc 21 false [.f 22 1 4,.l 23 22,.un 24 .not 23] 25 .V 24,.m 26 25,.sc 26 false [.f 27 1 6,.l 28 27,.len 29 false 28,.bin 30 .gtr 29 (.i 0)] 31 .V 30] 32 31 .F] 33 .V 32,.m 34 33,.sc 34 false [.f 35 1 2,.l 36 35,.m 37 36,.sc 37 true [.f 38 1 3,.l 39 38,.m 40 39,.sc 40 false [.f 41 1 4,.l 42 41] 43 .V 42] 44 43 .F] 45 .V 44,.m 46 45,.sc 46 false [.f 47 1 6,.l 48 47,.cl 49 [48] cU,.un 50 .not 49] 51 .V 50,.m 52 51,.sc 52 false [.f 53 1 9,.f 54 53 6,.l 55 54,.cl 56 [55] cU,.un 57 .not 56] 58 .V 57,.m 59 58,.sc 59 false [.f 60 1 7,.l 61 60,.cl 62 [61] ML,.un 63 .not 62] 64 .V 63,.m 65 64,.sc 65 false [.f 66 1 8,.l 67 66,.cx (some 68) [67,.c (.int .i64 0),.c (.int .i64 900)] BE,.un 69 .not 68] 70 .V 69] [1,70] (.cond 70 (.R [.mv 2 .F] [2] .e) .k)) TL))⟩
theorem np:At Tryz.prog 94 GG=true:=by kernel_rfl
def Xd:AH:=(.s (.R [.m 6 5,.m 7 0,.len 8 false 7,.b 9 .lss 6 8] [0,1,4,5,9] (.cond 9 .k (.exit 0))) (.s (.b 1 [0,1,4,5] (.R [.m 12 0,.m 13 5,.idx 14 3 12 13,.f 15 14 0,.l 16 15,.m 17 1,.b 18 .eql 16 17] [0,1,4,5,18] (.cond 18 (.R [.m 19 0,.m 20 5,.idx 21 3 19 20,.ls 22 21 3,.store 4 22 3 false] [4] .e) .k))) (.r [.m 10 5,.bin 11 .add 10 (.i 1),.m 5 11] [0,1,4,5])))
def Xe:AH:=(.R [.bu 23 AG [],.store 4 23 3 false] [4] .e)
def FE:BI:=⟨[.val (.slice AG),.val .str],[⟨4,true,AG⟩],(.R [.al 4 AG] [0,1,4] (.s (.R [.mv 5 (.i 0)] [0,1,4,5] (.b 0 [4] (.loop [0,1,4,5] Xd))) Xe))⟩
theorem tC:At Tryz.prog 95 FE=true:=by kernel_rfl
def VP:AH:=(.s (.D 18 [(1,[]),(2,[0,1]),(5,[]),(7,[4,6]),(10,[8]),(11,[9,10]),(14,[8]),(16,[13,15])] (.tk 9 [.m 42 41,.b 41 .eql 38 40,.l 40 39,.f 39 3 0,.l 38 37,.f 37 36 0,.idx 36 3 34 35,.m 35 7,.m 34 0] (.test 42 (.tg 42 true 17 [.b 50 .geq 47 49,.l 49 48,.f 48 3 2,.l 47 46,.f 46 45 2,.idx 45 3 43 44,.m 44 7,.m 43 0] (.tk 18 [.pick 51 42 50 .F] .z)) (.sk 42 true 8 17 51 (.tk 18 [.pick 51 42 50 .F] .z)))) [0,3,5,6,7,51]) (.cond 51 (.R [.m 52 5,.m 4 52] [4] .e) .k))
def VQ:AH:=(.r [.m 17 7,.bin 18 .add 17 (.i 1),.m 7 18] [0,3,5,6,7])
def VR:AH:=(.s (.R [.m 13 7,.m 14 0,.len 15 false 14,.b 16 .lss 13 15] [0,3,5,6,7,16] (.cond 16 .k (.exit 0))) (.s (.b 1 [0,3,5,6,7] (.seqc [0,3,5,6,7] (.s (.D 8 [(1,[]),(2,[0,1]),(5,[]),(7,[4,6])] (.tk 8 [.b 26 .lss 23 25,.l 25 24,.f 24 3 0,.l 23 22,.f 22 21 0,.idx 21 3 19 20,.m 20 7,.m 19 0] .z) [0,3,5,6,7,26]) (.cond 26 (.r [.m 27 6,.m 28 0,.m 29 7,.idx 30 3 28 29,.ls 31 30 3,.blst 32 AG [31],.app 33 70 AG 27 32,.m 6 33] [0,3,5,6,7]) .k)) VP)) VQ))
def TM:AH:=(.s (.R [.m 57 8,.m 58 0,.len 59 false 58,.b 60 .lss 57 59] [0,3,5,6,8,60] (.cond 60 .k (.exit 2))) (.s (.b 3 [0,3,5,6,8] (.s (.D 8 [(1,[]),(2,[0,1]),(5,[]),(7,[4,6])] (.tk 8 [.b 70 .gtr 67 69,.l 69 68,.f 68 3 0,.l 67 66,.f 66 65 0,.idx 65 3 63 64,.m 64 8,.m 63 0] .z) [0,3,5,6,8,70]) (.cond 70 (.r [.m 71 6,.m 72 0,.m 73 8,.idx 74 3 72 73,.ls 75 74 3,.blst 76 AG [75],.app 77 70 AG 71 76,.m 6 77] [0,3,5,6,8]) .k))) (.r [.m 61 8,.bin 62 .add 61 (.i 1),.m 8 62] [0,3,5,6,8])))
def MW:AH:=(.s (.R [.m 78 0,.cl 79 [78] ML,.un 80 .not 79,.m 81 80,.sc 81 false [.m 82 6,.cl 83 [82] ML,.un 84 .not 83] 85 .V 84] [5,6,85] (.cond 85 (.R [.m 86 5,.m 4 86] [4] .e) .k)) (.R [.m 87 6,.m 4 87] [4] .e))
def MX:AH:=(.R [.m 53 6,.ls 54 3 3,.blst 55 AG [54],.app 56 70 AG 53 55,.m 6 56] [0,3,5,6] (.s (.R [.mv 8 (.i 0)] [0,3,5,6,8] (.b 2 [0,5,6] (.loop [0,3,5,6,8] TM))) MW))
def BL:BI:=⟨[.val (.slice AG),.val AG],[⟨4,false,(.own 70 AG)⟩],(.R [.box 3 1 false,.mv 4 .z] [0,3] (.R [.brow 9 70 AG [],.m 10 0,.app 11 70 AG 9 10,.m 5 11] [0,3,5] (.R [.brow 12 70 AG [],.m 6 12] [0,3,5,6] (.s (.R [.mv 7 (.i 0)] [0,3,5,6,7] (.b 0 [0,3,5,6] (.loop [0,3,5,6,7] VR))) MX))))⟩
theorem qy:At Tryz.prog 96 BL=true:=by kernel_rfl
def Ri:AH:=(.s (.R [.m 8 6,.bin 9 .leq 8 (.i 6)] [0,1,5,6,9] (.cond 9 .k (.exit 0))) (.s (.b 1 [0,1,5,6] (.R [.m 12 6,.m 13 1,.b 14 .neq 12 13,.m 15 14,.sc 15 true [.m 16 0,.m 17 6,.cl 18 [16,17] Hd] 19 18 .F] [0,1,5,6,19] (.cond 19 (.r [.m 20 5,.m 21 6,.blst 22 .W [21],.app 23 3 .W 20 22,.m 5 23] [0,1,5,6]) .k))) (.r [.m 10 6,.bin 11 .add 10 (.i 1),.m 6 11] [0,1,5,6])))
def Rj:AH:=(.R [.m 24 5,.m 4 24] [4] .e)
def DK:BI:=⟨[.val .S,.val .W],[⟨4,false,.S⟩],(.R [.mv 4 .z] [0,1] (.R [.brow 7 3 .W [],.m 5 7] [0,1,5] (.s (.R [.mv 6 (.i 1)] [0,1,5,6] (.b 0 [5] (.loop [0,1,5,6] Ri))) Rj)))⟩
theorem kM:At Tryz.prog 97 DK=true:=by kernel_rfl
def JS:BI:=⟨[.ptr AB],[⟨2,false,(.slice BD)⟩],(.R [.mv 2 .z] [0] (.R [.m 5 0,.n 6 5,.f 7 6 9,.ls 8 7 7,.al 3 Gk,.store 3 8 7 false] [0,3] (.s (.D 13 [(2,[]),(6,[]),(8,[]),(10,[1,5,7,9]),(11,[]),(12,[10,11])] (.tk 11 [.bu 19 BD [(0,1,10),(1,1,14),(2,1,16),(3,3,18)],.ls 18 17 3,.f 17 3 3,.l 16 15,.f 15 3 2,.l 14 13,.f 13 12 1,.n 12 11,.m 11 0,.l 10 9,.f 9 3 1] (.O 11 (.al 4 BD) false [] (.O 12 (.store 4 19 6 false) false [] .z))) [0,3,4]) (.seqc [0,4] (.R [.f 20 3 0,.l 21 20,.bin 22 .eql 21 (.i 1)] [0,3,4,22] (.cond 22 (.D 11 [(1,[]),(5,[]),(7,[4,6]),(8,[0,7])] (.tk 7 [.ls 29 28 3,.f 28 3 3,.l 27 26,.f 26 25 7,.n 25 24,.m 24 0,.m 23 0] (.O 7 (.cl 30 [27,29] RJ) false [] (.tk 10 [.f 32 31 7,.n 31 23] (.O 10 (.store 32 30 1 false) false [] .z)))) [0,4]) (.D 10 [(4,[]),(7,[3,6])] (.tk 7 [.l 39 38,.f 38 37 0,.f 37 3 3,.l 36 35,.f 35 34 7,.n 34 33,.m 33 0] (.O 7 (.cl 40 [36,39] cO) false [] (.tk 9 [.f 41 4 3] (.O 9 (.store 41 40 3 false) false [] .z)))) [0,4]))) (.R [.m 42 0,.bu 43 Gk [],.n 44 42,.f 45 44 9,.store 45 43 7 false] [4] (.R [.ls 46 4 6,.brow 47 104 BD [46],.m 2 47] [2] .e))))))⟩
theorem kN:At Tryz.prog 98 JS=true:=by kernel_rfl
def Xf:AH:=(.s (.R [.m 37 8,.m 38 1,.len 39 false 38,.b 40 .lss 37 39] [0,1,2,7,8,40] (.cond 40 .k (.exit 0))) (.s (.b 1 [0,1,2,7,8] (.s (.D 9 [(1,[]),(2,[0,1]),(4,[]),(8,[3,7])] (.tk 9 [.b 51 .neq 46 50,.l 50 49,.f 49 48 0,.n 48 47,.m 47 0,.l 46 45,.idx 45 1 43 44,.m 44 8,.m 43 1] .z) [0,1,2,7,8,51]) (.cond 51 (.D 20 [(1,[]),(5,[]),(6,[]),(7,[5,6]),(9,[]),(13,[]),(14,[]),(15,[13,14]),(16,[4,8,12,15]),(18,[0,17])] (.tk 13 [.l 64 63,.f 63 62 1,.n 62 61,.m 61 0,.l 60 59,.idx 59 1 57 58,.m 58 8,.m 57 1,.l 56 55,.f 55 54 0,.n 54 53,.m 53 0,.m 52 7] (.tk 15 [.m 66 2] (.O 13 (.brow 65 70 AG []) false [] (.O 15 (.apz 67 70 AG 65 66) false [] (.tk 17 [.bu 68 AI [(0,1,.c (.int .i64 3)),(1,1,56),(2,1,60),(3,1,64),(5,1,67)]] (.O 17 (.blst 69 AI [68]) false [] (.O 18 (.app 70 90 AI 52 69) false [] (.tk 20 [.m 7 70] .z)))))))) [0,1,2,7,8]) .k))) (.r [.m 41 8,.bin 42 .add 41 (.i 1),.m 8 42] [0,1,2,7,8])))
def Xg:AH:=(.R [.m 71 7,.m 6 71] [6] .e)
def FF:BI:=⟨[.ptr AB,.val .S,.val (.slice AG)],[⟨6,false,(.slice AI)⟩],(.R [.mv 6 .z] [0,1,2] (.R [.brow 9 90 AI [],.m 7 9] [0,1,2,7] (.R [.m 10 0,.n 11 10,.f 12 11 3,.store 12 .V 1 false] [0,1,2,7] (.R [.m 13 0,.brow 14 70 AG [],.m 15 2,.app 16 70 AG 14 15,.n 17 13,.f 18 17 7,.store 18 16 1 false] [0,1,2,7] (.R [.m 19 0,.m 20 1,.m 21 0,.n 22 21,.f 23 22 0,.l 24 23,.cl 25 [20,24] Uw,.n 26 19,.f 27 26 6,.store 27 25 1 false] [0,1,2,7] (.R [.m 28 0,.m 29 0,.n 30 29,.f 31 30 6,.l 32 31,.len 33 false 32,.bin 34 .eql 33 (.i 0),.n 35 28,.f 36 35 5,.store 36 34 1 false] [0,1,2,7] (.s (.R [.mv 8 (.i 0)] [0,1,2,7,8] (.b 0 [7] (.loop [0,1,2,7,8] Xf))) Xg)))))))⟩
theorem tD:At Tryz.prog 99 FF=true:=by kernel_rfl
def ZR:AH:=(.cond 39 (.R [.mv 2 .V] [2] .e) (.R [.bin 43 .eql 38 (.i 5),.m 42 43] [1,42] (.cond 42 (.R [.f 44 1 5,.l 45 44,.len 46 false 45,.bin 47 .eql 46 (.i 1),.m 2 47] [2] .e) .k)))
def ZS:AH:=(.R [.f 48 1 5,.l 49 48,.len 50 false 49,.bin 51 .eql 50 (.i 0),.m 2 51] [2] .e)
def ZT:AH:=(.s (.R [.f 37 1 0,.l 38 37] [1,38] (.b 0 [1] (.seqc [1,38,39] (.R [.bin 40 .eql 38 (.i 2),.m 39 40] [1,38,39] (.cond 39 .k (.r [.bin 41 .eql 38 (.i 3),.m 39 41] [1,38,39]))) ZR))) ZS)
def E1:BI:=⟨[.val AI],[⟨2,false,.bool⟩],(.R [.box 1 0 false,.mv 2 .F] [1] (.s (.R [.f 3 1 0,.l 4 3,.cx (some 5) [4,.c (.int .i64 1),.c (.int .i64 8)] BE,.un 6 .not 5,.m 7 6,.sc 7 false [.f 8 1 1,.l 9 8,.cx (some 10) [9,.c (.int .i64 1),.c (.int .i64 6)] BE,.un 11 .not 10] 12 .V 11,.m 13 12,.sc 13 false [.f 14 1 2,.l 15 14,.cx (some 16) [15,.c (.int .i64 1),.c (.int .i64 6)] BE,.un 17 .not 16] 18 .V 17,.m 19 18,.sc 19 false [.f 20 1 3,.l 21 20,.cx (some 22) [21,.c (.int .i64 1),.c (.int .i64 9)] BE,.un 23 .not 22] 24 .V 23,.m 25 24,.sc 25 false [.f 26 1 4,.l 27 26,.cx (some 28) [27,.c (.int .i64 0),.c (.int .i64 1000000000)] BE,.un 29 .not 28] 30 .V 29,.m 31 30,.sc 31 false [.f 32 1 5,.l 33 32,.cl 34 [33] ML,.un 35 .not 34] 36 .V 35] [1,36] (.cond 36 (.R [.mv 2 .F] [2] .e) .k)) ZT))⟩
theorem u_:At Tryz.prog 100 E1=true:=by kernel_rfl

def Xh:AH:=(.cond 28 (.R [.m 29 1,.f 30 5 5,.l 31 30,.cl 32 [9,29,31] cQ,.m 12 32] [6,9,11,12] (.R [.ls 33 9 16,.m 34 12,.m 35 11,.store 6 33 16 false,.m 7 34,.m 8 35] [6,7,8] .e)) .k)
def Xi:AH:=(.seqc [3,5,6,9,11] (.R [.f 64 9 3,.l 65 64,.un 66 .not 65] [3,5,6,9,11,66] (.cond 66 (.R [.ls 67 3 16,.f 68 3 1,.l 69 68,.cl 70 [67,69] ZB,.store 9 70 16 false] [3,5,6,9,11] (.R [.f 71 9 3,.store 71 .V 1 false] [3,5,6,9,11] (.r [.brow 72 70 AG [],.f 73 5 5,.l 74 73,.app 75 70 AG 72 74,.f 76 9 7,.store 76 75 1 false] [3,5,6,9,11]))) .k)) (.s (.D 8 [(1,[]),(2,[]),(3,[1,2]),(4,[]),(5,[0,3]),(7,[4,6])] (.tk 3 [.ls 79 5 6,.ls 78 3 16,.ls 77 9 16] (.tk 5 [.m 81 11] (.O 3 (.cx (some 80) [78,79,.c (.int .i64 4)] Ko) false [] (.O 5 (.store 6 77 16 false) false [] (.tk 8 [.m 8 81,.m 7 80] .z))))) [6,7,8]) .e))
def Xj:AH:=(.s (.R [.f 54 9 3,.l 55 54,.un 56 .not 55,.m 57 56,.sc 57 true [.f 58 9 2,.l 59 58] 60 59 .F] [3,5,6,9,10,11,60] (.cond 60 (.R [.ls 61 9 16,.m 62 10,.m 63 11,.store 6 61 16 false,.m 7 62,.m 8 63] [6,7,8] .e) .k)) Xi)
def VS:AH:=(.R [.f 149 9 9,.f 150 149 6,.l 151 150,.f 152 5 1,.l 153 152,.cl 154 [151,153] Sm,.f 155 9 9,.f 156 155 6,.store 156 154 1 false] [6,9,10,11] (.R [.f 157 9 9,.f 158 157 6,.l 159 158,.len 160 false 159,.bin 161 .eql 160 (.i 0)] [6,9,10,11,161] (.cond 161 (.r [.cl 162 [9] Ux,.m 11 162] [6,9,10,11]) .k)))
def VT:AH:=(.s (.R [.f 133 9 9,.f 134 133 0,.l 135 134,.m 136 13,.b 137 .neq 135 136,.m 138 137,.sc 138 false [.f 139 9 9,.f 140 139 2,.l 141 140,.f 142 5 4,.l 143 142,.b 144 .neq 141 143] 145 .V 144] [5,6,9,10,11,145] (.cond 145 (.R [.ls 146 9 16,.m 147 10,.m 148 11,.store 6 146 16 false,.m 7 147,.m 8 148] [6,7,8] .e) .k)) VS)
def VU:AH:=(.cond 127 (.R [.mv 13 (.i 1)] [5,6,9,10,11,13] (.seqc [5,6,9,10,11,13] (.R [.f 130 5 0,.l 131 130,.bin 132 .eql 131 (.i 8)] [5,6,9,10,11,13,132] (.cond 132 (.r [.mv 13 (.i 2)] [5,6,9,10,11,13]) .k)) VT)) .k)
def VV:AH:=(.R [.ls 163 9 16,.m 164 10,.m 165 11,.store 6 163 16 false,.m 7 164,.m 8 165] [6,7,8] .e)
def Cj:BI:=⟨[.val AB,.val .S,.val AI],[⟨6,true,AB⟩,⟨7,false,(.slice AI)⟩,⟨8,false,(.slice BD)⟩],(.R [.box 3 0 false,.box 5 2 false,.al 6 AB,.mv 7 .z,.mv 8 .z] [1,3,5,6] (.R [.ls 14 3 16,.cl 15 [14] G7,.al 9 AB,.store 9 15 16 false] [1,3,5,6,9] (.R [.blst 16 AI [],.m 10 16] [1,3,5,6,9,10] (.R [.blst 17 BD [],.m 11 17] [1,3,5,6,9,10,11] (.s (.R [.f 18 5 0,.l 19 18] [1,3,5,6,9,10,11,19] (.b 0 [6,9,10,11] (.R [.bin 21 .eql 19 (.i 2),.m 20 21] [1,3,5,6,9,10,11,19,20] (.cond 20 (.R [.f 22 9 4,.l 23 22,.m 24 23,.sc 24 true [.f 25 9 3,.l 26 25,.un 27 .not 26] 28 27 .F] [1,5,6,9,10,11,28] Xh) (.R [.bin 37 .eql 19 (.i 3),.m 36 37] [1,3,5,6,9,10,11,19,36] (.cond 36 (.s (.s (.D 13 [(1,[]),(3,[0,2]),(9,[5]),(11,[8,10])] (.tk 3 [.l 40 39,.f 39 3 0,.m 38 1] (.O 3 (.cl 41 [38,40] Hd) false [] (.tk 6 [.m 43 42,.un 42 .not 41] (.test 43 (.sk 43 false 6 12 50 (.tk 13 [.pick 50 43 .V 49] .z)) (.tg 43 false 12 [.b 49 .eql 46 48,.l 48 47,.f 47 3 0,.l 46 45,.idx 45 1 44 (.i 0),.m 44 1] (.tk 13 [.pick 50 43 .V 49] .z)))))) [3,5,6,9,10,11,50]) (.cond 50 (.R [.ls 51 9 16,.m 52 10,.m 53 11,.store 6 51 16 false,.m 7 52,.m 8 53] [6,7,8] .e) .k)) Xj) (.R [.bin 83 .eql 19 (.i 4),.m 82 83] [3,5,6,9,10,11,19,82] (.cond 82 (.R [.f 84 9 4,.l 85 84] [5,6,9,10,11,85] (.cond 85 (.R [.f 86 9 6,.l 87 86,.f 88 5 1,.l 89 88,.cl 90 [87,89] Sm,.f 91 9 6,.store 91 90 1 false] [6,9,10,11] (.r [.f 92 9 3,.l 93 92,.m 94 93,.sc 94 true [.f 95 9 6,.l 96 95,.len 97 false 96,.bin 98 .eql 97 (.i 0)] 99 98 .F,.f 100 9 5,.store 100 99 1 false] [6,9,10,11])) .k)) (.R [.bin 102 .eql 19 (.i 5),.m 101 102] [3,5,6,9,10,11,19,101] (.cond 101 (.R [.f 103 9 3,.l 104 103] [3,5,6,9,10,11,104] (.cond 104 (.s (.D 9 [(2,[]),(6,[1,5])] (.tk 6 [.ls 110 109 3,.idx 109 3 108 (.i 0),.l 108 107,.f 107 5 5,.l 106 105,.f 105 9 7] (.O 6 (.cl 111 [106,110] RJ) false [] (.tk 8 [.f 112 9 7] (.O 8 (.store 112 111 1 false) false [] .z)))) [3,5,6,9,11]) (.s (.D 8 [(1,[]),(2,[]),(3,[1,2]),(4,[]),(5,[0,3]),(7,[4,6])] (.tk 3 [.ls 115 5 6,.ls 114 3 16,.ls 113 9 16] (.tk 5 [.m 117 11] (.O 3 (.cx (some 116) [114,115,.c (.int .i64 6)] Ko) false [] (.O 5 (.store 6 113 16 false) false [] (.tk 8 [.m 8 117,.m 7 116] .z))))) [6,7,8]) .e)) .k)) (.R [.bin 119 .eql 19 (.i 7),.m 118 119] [3,5,6,9,10,11,19,118] (.cond 118 (.R [.f 120 9 3,.l 121 120] [3,5,6,9,10,11,121] (.cond 121 (.s (.D 8 [(1,[]),(2,[]),(3,[1,2]),(4,[]),(5,[0,3]),(7,[4,6])] (.tk 3 [.ls 124 5 6,.ls 123 3 16,.ls 122 9 16] (.tk 5 [.m 126 11] (.O 3 (.cx (some 125) [123,124,.c (.int .i64 8)] Ko) false [] (.O 5 (.store 6 122 16 false) false [] (.tk 8 [.m 8 126,.m 7 125] .z))))) [6,7,8]) .e) .k)) (.seqc [5,6,9,10,11,127] (.R [.bin 128 .eql 19 (.i 6),.m 127 128] [5,6,9,10,11,19,127] (.cond 127 .k (.r [.bin 129 .eql 19 (.i 8),.m 127 129] [5,6,9,10,11,127]))) VU))))))))))))) VV)))))⟩
theorem tE:At Tryz.prog 101 Cj=true:=by kernel_rfl
def MY:BI:=⟨[.val AB,.val .W],[⟨4,true,AB⟩],(.R [.box 2 0 false,.al 4 AB] [1,2,4] (.s (.D 9 [(2,[]),(3,[]),(4,[]),(6,[3,5]),(7,[1,2,6])] (.tk 3 [.m 7 1,.l 6 5,.f 5 2 0] (.tk 6 [.l 10 9,.f 9 2 7] (.O 3 (.brow 8 70 AG []) false [] (.O 6 (.apz 11 70 AG 8 10) false [] (.tk 8 [.bu 12 AB [(0,1,6),(1,1,7),(7,1,11),(8,1,.c (.int .i64 0))]] (.O 8 (.store 4 12 16 false) false [] .z)))))) [4]) .e))⟩
theorem qz:At Tryz.prog 102 MY=true:=by kernel_rfl
def Kr:BI:=⟨[.val AB,.val AI,.val .W],[⟨6,false,(.slice AI)⟩],(.R [.box 3 0 false,.box 4 1 false,.mv 6 .z] [2,3,4] (.R [.m 7 2,.f 8 3 0,.l 9 8,.f 10 4 1,.l 11 10,.f 12 4 3,.l 13 12,.f 14 4 4,.l 15 14,.bu 16 AI [(0,1,7),(1,1,9),(2,1,11),(3,1,13),(4,1,15)],.brow 17 90 AI [16],.m 6 17] [6] .e))⟩
theorem nq:At Tryz.prog 103 Kr=true:=by kernel_rfl
def TN:AH:=(.s (.R [.f 31 1 5,.l 32 31,.m 33 32,.sc 33 true [.f 34 1 3,.l 35 34,.un 36 .not 35,.m 37 36,.sc 37 false [.f 38 1 4,.l 39 38,.un 40 .not 39] 41 .V 40,.m 42 41,.sc 42 false [.f 43 1 6,.l 44 43,.len 45 false 44,.bin 46 .gtr 45 (.i 0)] 47 .V 46] 48 47 .F,.m 49 48,.sc 49 false [.f 50 1 2,.l 51 50,.m 52 51,.sc 52 true [.f 53 1 3,.l 54 53,.m 55 54,.sc 55 false [.f 56 1 4,.l 57 56] 58 .V 57] 59 58 .F] 60 .V 59] [1,60] (.cond 60 (.R [.mv 2 .F] [2] .e) .k)) (.R [.cl 61 [1] ZD,.m 2 61] [2] .e))
def GH:BI:=⟨[.val AB],[⟨2,false,.bool⟩],(.R [.box 1 0 false,.mv 2 .F] [1] (.s (.R [.f 3 1 0,.l 4 3,.cl 5 [4] IK,.un 6 .not 5,.m 7 6,.sc 7 false [.f 8 1 1,.l 9 8,.cx (some 10) [9,.c (.int .i64 1),.c (.int .i64 9)] BF,.un 11 .not 10] 12 .V 11,.m 13 12,.sc 13 false [.f 14 1 6,.l 15 14,.cx (some 16) [15,.c (.int .i64 1),.c (.int .i64 6)] RL,.un 17 .not 16] 18 .V 17,.m 19 18,.sc 19 false [.f 20 1 7,.l 21 20,.cl 22 [21] MM,.un 23 .not 22] 24 .V 23,.m 25 24,.sc 25 false [.f 26 1 8,.l 27 26,.cx (some 28) [27,.c (.int .i64 0),.c (.int .i64 900)] BF,.un 29 .not 28] 30 .V 29] [1,30] (.cond 30 (.R [.mv 2 .F] [2] .e) .k)) TN))⟩
theorem ns:At Tryz.prog 104 GH=true:=by kernel_rfl
def KZ:AH:=(.s (.D 20 [(4,[2]),(9,[3,8]),(13,[2]),(17,[12,16])] (.tk 1 [.m 34 1] (.O 1 (.cl 35 [34] I0) false [] (.tk 3 [.m 36 35] (.test 36 (.tg 36 true 18 [.b 51 .eql 46 50,.l 50 49,.f 49 48 0,.n 48 47,.m 47 0,.l 46 45,.idx 45 1 44 (.i 0),.l 44 43,.idx 43 1 37 42,.bin 42 .sub 41 (.i 1),.l 41 40,.f 40 39 1,.n 39 38,.m 38 0,.m 37 1] (.tk 20 [.m 4 52,.pick 52 36 51 .F] .z)) (.sk 36 true 15 18 52 (.tk 20 [.m 4 52,.pick 52 36 51 .F] .z)))))) [4]) .e)
def Cm:BI:=⟨[.ptr AB,.val (.slice .S)],[⟨4,false,.bool⟩],(.R [.mv 4 .F] [0,1] (.s (.R [.m 5 0,.n 6 5,.f 7 6 5,.l 8 7,.un 9 .not 8,.m 10 9,.sc 10 false [.m 11 0,.n 12 11,.f 13 12 9,.f 14 13 0,.l 15 14,.bin 16 .neq 15 (.i 0)] 17 .V 16,.m 18 17,.sc 18 false [.m 19 0,.n 20 19,.f 21 20 8,.l 22 21,.bin 23 .eql 22 (.i 900)] 24 .V 23,.m 25 24,.sc 25 false [.m 26 0,.n 27 26,.f 28 27 1,.l 29 28,.m 30 1,.len 31 false 30,.b 32 .gtr 29 31] 33 .V 32] [0,1,33] (.cond 33 (.R [.mv 4 .F] [4] .e) .k)) KZ))⟩
theorem Wf:At Tryz.prog 105 Cm=true:=by kernel_rfl
def Xk:AH:=(.R [.b 10 .lss 9 8] [1,4,7,8,9,10] (.s (.cond 10 .k (.exit 0)) (.s (.b 1 [1,4,7,8,9] (.R [.idx 11 3 7 9,.ls 12 11 3,.al 6 AG,.store 6 12 3 false] [1,4,6,7,8,9] (.R [.f 13 6 0,.l 14 13,.m 15 1,.b 16 .eql 14 15] [1,4,6,7,8,9,16] (.cond 16 (.R [.ls 17 6 3,.store 4 17 3 false] [4] .e) .k)))) (.r [.bin 18 .add 9 (.i 1),.m 9 18] [1,4,7,8,9]))))
def Xl:AH:=(.R [.bu 19 AG [],.store 4 19 3 false] [4] .e)
def FI:BI:=⟨[.val (.slice AG),.val .str],[⟨4,true,AG⟩],(.R [.al 4 AG] [0,1,4] (.s (.R [.m 7 0,.len 8 false 7,.mv 9 (.i 0)] [1,4,7,8,9] (.b 0 [4] (.loop [1,4,7,8,9] Xk))) Xl))⟩
theorem tF:At Tryz.prog 106 FI=true:=by kernel_rfl
def MZ:AH:=(.R [.b 11 .lss 10 9] [0,5,8,9,10,11] (.s (.cond 11 .k (.exit 0)) (.s (.b 1 [0,5,8,9,10] (.R [.idx 12 1 8 10,.l 13 12,.m 7 13] [0,5,7,8,9,10] (.R [.m 14 7,.m 15 0,.n 16 15,.f 17 16 0,.l 18 17,.b 19 .neq 14 18] [0,5,7,8,9,10,19] (.cond 19 (.r [.m 20 5,.m 21 7,.blst 22 .W [21],.app 23 3 .W 20 22,.m 5 23] [0,5,8,9,10]) .k)))) (.r [.bin 24 .add 10 (.i 1),.m 10 24] [0,5,8,9,10]))))
def Ma:AH:=(.R [.m 25 5,.m 4 25] [4] .e)
def CG:BI:=⟨[.ptr AB,.val .S],[⟨4,false,.S⟩],(.R [.mv 4 .z] [0,1] (.R [.nilrow 5 3 .W] [0,1,5] (.s (.R [.m 8 1,.len 9 false 8,.mv 10 (.i 0)] [0,5,8,9,10] (.b 0 [5] (.loop [0,5,8,9,10] MZ))) Ma)))⟩
theorem ZU:At Tryz.prog 107 CG=true:=by kernel_rfl
def Fx:BI:=⟨[.mut (.own 3 .W)],[],(.R [.m 3 0,.len 4 false 3,.m 2 4] [0,2] (.r [.m 5 0,.m 6 2,.m 7 2,.cvi 8 .u64 7,.cl 9 [8] nV,.cx (some 10) [5,.c (.int .i64 0),6,9] Ez] []))⟩
theorem YV:At Tryz.prog 108 Fx=true:=by kernel_rfl
def O3:AH:=(.R [.m 30 0,.bu 31 Gk [],.n 32 30,.f 33 32 9,.store 33 31 7 false] [0,3] (.s (.D 13 [(2,[]),(6,[]),(8,[]),(10,[1,5,7,9])] (.tk 11 [.bu 44 BD [(0,1,35),(1,1,39),(2,1,41),(3,3,43)],.ls 43 42 3,.f 42 3 3,.l 41 40,.f 40 3 2,.l 39 38,.f 38 37 1,.n 37 36,.m 36 0,.l 35 34,.f 34 3 1] (.O 11 (.brow 45 104 BD [44]) false [] (.tk 13 [.m 2 45] .z))) [2]) .e))
def D6:BI:=⟨[.ptr AB],[⟨2,false,(.slice BD)⟩],(.R [.mv 2 .z] [0] (.R [.m 4 0,.n 5 4,.f 6 5 9,.ls 7 6 7,.al 3 Gk,.store 3 7 7 false] [0,3] (.seqc [0,3] (.R [.f 8 3 0,.l 9 8,.bin 10 .eql 9 (.i 1)] [0,3,10] (.cond 10 (.D 11 [(1,[]),(5,[]),(7,[4,6]),(8,[0,7])] (.tk 7 [.ls 17 16 3,.f 16 3 3,.l 15 14,.f 14 13 7,.n 13 12,.m 12 0,.m 11 0] (.O 7 (.cl 18 [15,17] ZE) false [] (.tk 10 [.f 20 19 7,.n 19 11] (.O 10 (.store 20 18 1 false) false [] .z)))) [0,3]) (.D 10 [(4,[]),(7,[3,6])] (.tk 7 [.l 27 26,.f 26 25 0,.f 25 3 3,.l 24 23,.f 23 22 7,.n 22 21,.m 21 0] (.O 7 (.cl 28 [24,27] cR) false [] (.tk 9 [.f 29 3 3] (.O 9 (.store 29 28 3 false) false [] .z)))) [0,3]))) O3)))⟩
theorem dR:At Tryz.prog 109 D6=true:=by kernel_rfl
def Lq:AH:=(.R [.b 14 .lss 13 12] [0,5,7,11,12,13,14] (.s (.cond 14 .k (.exit 0)) (.s (.b 1 [0,5,7,11,12,13] (.R [.idx 15 1 11 13,.l 16 15,.m 9 16] [0,5,7,9,11,12,13] (.R [.ls 17 5 6,.cl 18 [17] Y9,.al 10 AI,.store 10 18 6 false] [0,5,7,9,10,11,12,13] (.s (.D 15 [(4,[]),(5,[]),(9,[3]),(11,[4,10]),(13,[8,12])] (.tk 10 [.f 28 10 1,.l 27 26,.f 26 25 1,.n 25 24,.m 24 0,.m 23 9,.l 22 21,.f 21 20 0,.n 20 19,.m 19 0] (.O 10 (.store 28 22 1 false) false [] (.tk 12 [.f 29 10 2] (.O 12 (.store 29 23 1 false) false [] (.tk 14 [.f 30 10 3] (.O 14 (.store 30 27 1 false) false [] .z)))))) [0,5,7,10,11,12,13]) (.r [.m 31 7,.ls 32 10 6,.blst 33 AI [32],.app 34 90 AI 31 33,.m 7 34] [0,5,7,11,12,13]))))) (.r [.bin 35 .add 13 (.i 1),.m 13 35] [0,5,7,11,12,13]))))
def Lr:AH:=(.R [.m 36 7,.m 6 36] [6] .e)
def B6:BI:=⟨[.ptr AB,.val .S,.val AI],[⟨6,false,(.slice AI)⟩],(.R [.box 5 2 false,.mv 6 .z] [0,1,5] (.R [.nilrow 7 90 AI] [0,1,5,7] (.s (.R [.m 11 1,.len 12 false 11,.mv 13 (.i 0)] [0,5,7,11,12,13] (.b 0 [7] (.loop [0,5,7,11,12,13] Lq))) Lr)))⟩
theorem YW:At Tryz.prog 110 B6=true:=by kernel_rfl
def Id:BI:=⟨[.ptr AB],[],(.r [.m 2 0,.m 3 0,.m 4 0,.m 5 0,.m 6 0,.bu 7 Gk [],.n 8 2,.f 9 8 4,.store 9 .F 1 false,.n 10 3,.f 11 10 5,.store 11 .F 1 false,.n 12 4,.f 13 12 6,.store 13 .z 1 false,.n 14 5,.f 15 14 8,.store 15 (.i 0) 1 false,.n 16 6,.f 17 16 9,.store 17 7 7 false] [])⟩
theorem gJ:At Tryz.prog 111 Id=true:=by kernel_rfl
def E2:BI:=⟨[.ptr AB,.val .S,.val (.slice AG)],[⟨6,false,(.slice AI)⟩],(.R [.mv 6 .z] [0,1,2] (.R [.m 8 0,.m 9 1,.cl 10 [8,9] GO,.m 7 10] [0,2,7] (.R [.m 11 0,.m 12 0,.m 13 2,.cl 14 [13] Ap,.n 15 11,.f 16 15 3,.store 16 .V 1 true,.n 17 12,.f 18 17 7,.store 18 14 1 true] [0,2,7] (.R [.m 19 0,.m 20 7,.cl 21 [20] BX,.n 22 19,.f 23 22 6,.store 23 21 1 true] [0,2,7] (.R [.m 24 0,.n 25 24,.f 26 25 6,.l 27 26,.cl 28 [27] NN] [0,2,7] (.seqc [0,2,7] (.R [.m 29 7,.len 30 false 29,.bin 31 .eql 30 (.i 0)] [0,2,7,31] (.cond 31 (.r [.m 32 0,.n 33 32,.f 34 33 5,.store 34 .V 1 true] [0,2,7]) .k)) (.R [.m 35 0,.m 36 7,.m 37 2,.bu 38 AI [(0,1,.c (.int .i64 3)),(5,1,37)],.cl 39 [35,36,38] Bm,.m 6 39] [6] .e)))))))⟩
theorem Wg:At Tryz.prog 112 E2=true:=by kernel_rfl
def VX:AH:=(.R [.m 50 1,.ls 51 5 6,.cl 52 [9,50,51] dH,.m 49 52,.ext 53 49 0,.ext 54 49 1,.m 10 53,.m 11 54] [6,9,10,11] (.R [.ls 55 9 16,.cl 56 [55] Ib,.m 57 10,.m 58 11,.store 6 56 16 false,.m 7 57,.m 8 58] [6,7,8] .e))
def G_:BI:=⟨[.val AB,.val (.slice .S),.val AI],[⟨6,true,AB⟩,⟨7,false,(.slice AI)⟩,⟨8,false,(.slice BD)⟩],(.R [.box 3 0 false,.box 5 2 false,.al 6 AB,.mv 7 .z,.mv 8 .z] [1,3,5,6] (.R [.ls 12 3 16,.cl 13 [12] Ib,.al 9 AB,.store 9 13 16 false] [1,3,5,6,9] (.s (.R [.f 14 5 2,.l 15 14,.f 16 3 0,.l 17 16,.b 18 .neq 15 17,.m 19 18,.sc 19 false [.f 20 5 3,.l 21 20,.f 22 3 1,.l 23 22,.b 24 .lss 21 23] 25 .V 24,.m 26 25,.sc 26 false [.f 27 5 3,.l 28 27,.m 29 1,.len 30 false 29,.b 31 .gtr 28 30] 32 .V 31,.m 33 32,.sc 33 false [.ls 34 3 16,.cl 35 [34] Pa,.un 36 .not 35] 37 .V 36,.m 38 37,.sc 38 false [.m 39 1,.cl 40 [39] I0,.un 41 .not 40] 42 .V 41,.m 43 42,.sc 43 false [.ls 44 5 6,.cl 45 [44] ut,.un 46 .not 45] 47 .V 46] [1,5,6,9,47] (.cond 47 (.R [.ls 48 9 16,.store 6 48 16 false,.mv 7 .z,.mv 8 .z] [6,7,8] .e) .k)) VX)))⟩
theorem q8:At Tryz.prog 113 G_=true:=by kernel_rfl
def Ob:BI:=⟨[.val AG,.val AG],[⟨4,false,.bool⟩],(.R [.box 2 0 false,.box 3 1 false,.mv 4 .F] [2,3] (.s (.R [.f 5 2 0,.l 6 5,.f 7 3 0,.l 8 7,.b 9 .neq 6 8] [2,3,9] (.cond 9 (.R [.mv 4 .F] [4] .e) .k)) (.s (.R [.f 10 2 1,.l 11 10,.f 12 3 1,.l 13 12,.b 14 .neq 11 13] [2,3,14] (.cond 14 (.R [.mv 4 .F] [4] .e) .k)) (.s (.R [.f 15 2 2,.l 16 15,.f 17 3 2,.l 18 17,.b 19 .neq 16 18] [19] (.cond 19 (.R [.mv 4 .F] [4] .e) .k)) (.R [.mv 4 .V] [4] .e)))))⟩
theorem tG:At Tryz.prog 114 Ob=true:=by kernel_rfl
def Xm:DT:=(.tg 16 false 21 [.pick 30 19 29 .F] (.tk 22 [.pick 31 16 .V 30] .z))
def Xn:AH:=(.s (.R [.m 4 3,.m 5 0,.len 6 false 5,.b 7 .lss 4 6] [0,3,7] (.cond 7 .k (.exit 0))) (.s (.b 1 [0,3] (.s (.D 22 [(1,[]),(2,[0,1]),(11,[9]),(13,[10,12]),(15,[9]),(16,[9]),(17,[15,16]),(19,[14,18])] (.tk 4 [.l 13 12,.idx 12 1 10 11,.m 11 3,.m 10 0] (.O 4 (.cx (some 14) [13,.c (.int .i64 1),.c (.int .i64 6)] BE) false [] (.tk 7 [.m 16 15,.un 15 .not 14] (.test 16 (.sk 16 false 3 10 20 (.sk 19 true 10 20 30 (.sk 16 false 1 21 31 (.tk 22 [.pick 31 16 .V 30] .z)))) (.tg 16 false 10 [.m 19 18,.bin 18 .gtr 17 (.i 0),.m 17 3] (.test 19 (.tg 19 true 20 [.b 29 .geq 24 28,.l 28 27,.idx 27 1 25 26,.m 26 3,.m 25 0,.l 24 23,.idx 23 1 20 22,.bin 22 .sub 21 (.i 1),.m 21 3,.m 20 0] Xm) (.sk 19 true 10 20 30 Xm))))))) [0,3,31]) (.cond 31 (.R [.mv 2 .F] [2] .e) .k))) (.r [.m 8 3,.bin 9 .add 8 (.i 1),.m 3 9] [0,3])))
def Xo:AH:=(.R [.mv 2 .V] [2] .e)
def FJ:BI:=⟨[.val .S],[⟨2,false,.bool⟩],(.R [.mv 2 .F] [0] (.s (.R [.mv 3 (.i 0)] [0,3] (.b 0 [] (.loop [0,3] Xn))) Xo))⟩
theorem tH:At Tryz.prog 115 FJ=true:=by kernel_rfl
def TO:DT:=(.sk 32 false 3 21 36 (.sk 35 true 9 30 45 (.sk 32 false 1 31 46 (.tk 32 [.pick 46 32 .V 45] .z))))
def TP:DT:=(.sk 26 false 4 16 31 (.tk 18 [.m 32 31,.pick 31 26 .V 30] TO))
def TQ:DT:=(.tg 32 false 31 [.pick 45 35 44 .F] (.tk 32 [.pick 46 32 .V 45] .z))
def TR:AH:=(.s (.R [.m 5 3,.m 6 0,.len 7 false 6,.b 8 .lss 5 7] [0,3,8] (.cond 8 .k (.exit 0))) (.s (.b 1 [0,3] (.R [.m 11 0,.m 12 3,.idx 13 3 11 12,.ls 14 13 3,.al 4 AG,.store 4 14 3 false] [0,3,4] (.s (.D 32 [(22,[20]),(24,[21,23]),(27,[20]),(29,[26,28])] (.tk 3 [.len 17 true 16,.l 16 15,.f 15 4 0] (.O 3 (.cx (some 18) [17,.c (.int .i64 1),.c (.int .i64 12)] BE) false [] (.tk 6 [.m 20 19,.un 19 .not 18] (.test 20 (.sk 20 false 4 10 25 (.tk 12 [.m 26 25,.pick 25 20 .V 24] TP)) (.tg 20 false 10 [.bin 24 .gtr 23 (.i 20),.len 23 true 22,.l 22 21,.f 21 4 1] (.tk 12 [.m 26 25,.pick 25 20 .V 24] (.test 26 TP (.tg 26 false 14 [.l 28 27,.f 27 4 2] (.only 14 (some (26,false)) (.cx (some 29) [28,.c (.int .i64 1),.c (.int .i64 1000000000)] BE) false [] (.tg 26 false 16 [.un 30 .not 29] (.tk 18 [.m 32 31,.pick 31 26 .V 30] (.test 32 TO (.tg 32 false 21 [.m 35 34,.bin 34 .gtr 33 (.i 0),.m 33 3] (.test 35 (.tg 35 true 30 [.b 44 .geq 41 43,.l 43 42,.f 42 4 0,.l 41 40,.f 40 39 0,.idx 39 3 36 38,.bin 38 .sub 37 (.i 1),.m 37 3,.m 36 0] TQ) (.sk 35 true 9 30 45 TQ))))))))))))))) [0,3,46]) (.cond 46 (.R [.mv 2 .F] [2] .e) .k)))) (.r [.m 9 3,.bin 10 .add 9 (.i 1),.m 3 10] [0,3])))
def TS:AH:=(.R [.m 47 0,.len 48 false 47,.bin 49 .leq 48 (.i 12),.m 2 49] [2] .e)
def ES:BI:=⟨[.val (.slice AG)],[⟨2,false,.bool⟩],(.R [.mv 2 .F] [0] (.s (.R [.mv 3 (.i 0)] [0,3] (.b 0 [0] (.loop [0,3] TR))) TS))⟩
theorem q9:At Tryz.prog 116 ES=true:=by kernel_rfl
def JT:BI:=⟨[.val Gk],[⟨2,false,.bool⟩],(.R [.box 1 0 false,.mv 2 .F] [1] (.R [.f 3 1 0,.l 4 3,.bin 5 .eql 4 (.i 0),.m 6 5,.sc 6 true [.f 7 1 1,.l 8 7,.bin 9 .eql 8 (.i 0)] 10 9 .F,.m 11 10,.sc 11 true [.f 12 1 2,.l 13 12,.bin 14 .eql 13 (.i 0)] 15 14 .F,.m 16 15,.sc 16 true [.f 17 1 3,.ls 18 17 3,.bu 19 AG [],.eqs 20 false AG 18 19] 21 20 .F,.m 22 21,.sc 22 true [.f 23 1 6,.l 24 23,.len 25 false 24,.bin 26 .eql 25 (.i 0)] 27 26 .F,.m 2 27] [2] .e))⟩
theorem kO:At Tryz.prog 117 JT=true:=by kernel_rfl
def QE:AH:=(.s (.R [.m 8 6,.m 9 0,.len 10 false 9,.b 11 .lss 8 10] [0,1,5,6,11] (.cond 11 .k (.exit 0))) (.s (.b 1 [0,1,5,6] (.R [.m 14 0,.m 15 6,.idx 16 1 14 15,.l 17 16,.m 18 1,.b 19 .neq 17 18] [0,1,5,6,19] (.cond 19 (.r [.m 20 5,.m 21 0,.m 22 6,.idx 23 1 21 22,.l 24 23,.blst 25 .W [24],.app 26 3 .W 20 25,.m 5 26] [0,1,5,6]) .k))) (.r [.m 12 6,.bin 13 .add 12 (.i 1),.m 6 13] [0,1,5,6])))
def QF:AH:=(.R [.m 27 5,.m 4 27] [4] .e)
def Cu:BI:=⟨[.val .S,.val .W],[⟨4,false,.S⟩],(.R [.mv 4 .z] [0,1] (.R [.brow 7 3 .W [],.m 5 7] [0,1,5] (.s (.R [.mv 6 (.i 0)] [0,1,5,6] (.b 0 [5] (.loop [0,1,5,6] QE))) QF)))⟩
theorem gK:At Tryz.prog 118 Cu=true:=by kernel_rfl
def O4:AH:=(.R [.b 12 .lss 11 10] [0,1,2,9,10,11,12] (.s (.cond 12 .k (.exit 0)) (.s (.b 1 [0,1,2,9,10,11] (.R [.m 13 11,.idx 14 1 9 11,.l 15 14,.m 7 13,.m 8 15] [0,1,2,7,8,9,10,11] (.R [.m 16 8,.m 17 1,.m 18 2,.cl 19 [16,17,18] BF,.un 20 .not 19,.m 21 20,.sc 21 false [.m 22 7,.bin 23 .gtr 22 (.i 0),.m 24 23,.sc 24 true [.m 25 8,.m 26 0,.m 27 7,.bin 28 .sub 27 (.i 1),.idx 29 1 26 28,.l 30 29,.b 31 .leq 25 30] 32 31 .F] 33 .V 32] [0,1,2,9,10,11,33] (.cond 33 (.R [.mv 6 .F] [6] .e) .k)))) (.r [.bin 34 .add 11 (.i 1),.m 11 34] [0,1,2,9,10,11]))))
def O5:AH:=(.R [.mv 6 .V] [6] .e)
def Cf:BI:=⟨[.val .S,.val .W,.val .W],[⟨6,false,.bool⟩],(.R [.mv 6 .F] [0,1,2] (.s (.R [.m 9 0,.len 10 false 9,.mv 11 (.i 0)] [0,1,2,9,10,11] (.b 0 [] (.loop [0,1,2,9,10,11] O4))) O5))⟩
theorem dS:At Tryz.prog 119 Cf=true:=by kernel_rfl
def TU:DT:=(.sk 28 false 3 20 32 (.sk 31 true 9 29 41 (.sk 28 false 1 30 42 (.tk 31 [.pick 42 28 .V 41] .z))))
def TV:DT:=(.sk 22 false 4 15 27 (.tk 17 [.m 28 27,.pick 27 22 .V 26] TU))
def TW:DT:=(.tg 28 false 30 [.pick 41 31 40 .F] (.tk 31 [.pick 42 28 .V 41] .z))
def TX:AH:=(.R [.b 8 .lss 7 6] [0,5,6,7,8] (.s (.cond 8 .k (.exit 0)) (.s (.b 1 [0,5,6,7] (.R [.m 9 7,.idx 10 3 5 7,.ls 11 10 3,.al 4 AG,.m 3 9,.store 4 11 3 false] [0,3,4,5,6,7] (.s (.D 31 [(22,[19]),(23,[19]),(25,[22,24]),(28,[21,27])] (.tk 2 [.l 13 12,.f 12 4 0] (.O 2 (.cl 14 [13] gA) false [] (.tk 5 [.m 16 15,.un 15 .not 14] (.test 16 (.sk 16 false 4 9 21 (.tk 11 [.m 22 21,.pick 21 16 .V 20] TV)) (.tg 16 false 9 [.bin 20 .gtr 19 (.i 20),.len 19 true 18,.l 18 17,.f 17 4 1] (.tk 11 [.m 22 21,.pick 21 16 .V 20] (.test 22 TV (.tg 22 false 13 [.l 24 23,.f 23 4 2] (.only 13 (some (22,false)) (.cx (some 25) [24,.c (.int .i64 1),.c (.int .i64 1000000000)] BF) false [] (.tg 22 false 15 [.un 26 .not 25] (.tk 17 [.m 28 27,.pick 27 22 .V 26] (.test 28 TU (.tg 28 false 20 [.m 31 30,.bin 30 .gtr 29 (.i 0),.m 29 3] (.test 31 (.tg 31 true 29 [.b 40 .leq 33 39,.l 39 38,.f 38 37 0,.idx 37 3 34 36,.bin 36 .sub 35 (.i 1),.m 35 3,.m 34 0,.l 33 32,.f 32 4 0] TW) (.sk 31 true 9 29 41 TW))))))))))))))) [0,5,6,7,42]) (.cond 42 (.R [.mv 2 .F] [2] .e) .k)))) (.r [.bin 43 .add 7 (.i 1),.m 7 43] [0,5,6,7]))))
def TY:AH:=(.R [.m 44 0,.len 45 false 44,.bin 46 .leq 45 (.i 12),.m 2 46] [2] .e)
def ET:BI:=⟨[.val (.slice AG)],[⟨2,false,.bool⟩],(.R [.mv 2 .F] [0] (.s (.R [.m 5 0,.len 6 false 5,.mv 7 (.i 0)] [0,5,6,7] (.b 0 [0] (.loop [0,5,6,7] TX))) TY))⟩
theorem q_:At Tryz.prog 120 ET=true:=by kernel_rfl
def GT:BI:=⟨[.ptr AB],[⟨2,false,.bool⟩],(.R [.mv 2 .F] [0] (.R [.m 4 0,.n 5 4,.f 6 5 9,.ls 7 6 7,.al 3 Gk,.store 3 7 7 false] [0,3] (.s (.R [.f 8 3 0,.l 9 8,.bin 10 .eql 9 (.i 0)] [0,3,10] (.cond 10 (.R [.f 11 3 1,.l 12 11,.bin 13 .eql 12 (.i 0),.m 14 13,.sc 14 true [.f 15 3 2,.l 16 15,.bin 17 .eql 16 (.i 0)] 18 17 .F,.m 19 18,.sc 19 true [.f 20 3 3,.ls 21 20 3,.bu 22 AG [],.eqs 23 false AG 21 22] 24 23 .F,.m 25 24,.sc 25 true [.f 26 3 6,.l 27 26,.len 28 false 27,.bin 29 .eql 28 (.i 0)] 30 29 .F,.m 2 30] [2] .e) .k)) (.R [.f 31 3 0,.l 32 31,.cx (some 33) [32,.c (.int .i64 1),.c (.int .i64 2)] BF,.m 34 33,.sc 34 true [.m 35 0,.n 36 35,.f 37 36 5,.l 38 37] 39 38 .F,.m 40 39,.sc 40 true [.f 41 3 1,.l 42 41,.cx (some 43) [42,.c (.int .i64 0),.c (.int .i64 1000)] BF] 44 43 .F,.m 45 44,.sc 45 true [.f 46 3 2,.l 47 46,.cx (some 48) [47,.c (.int .i64 1),.c (.int .i64 900)] BF] 49 48 .F,.m 50 49,.sc 50 true [.f 51 3 6,.l 52 51,.cx (some 53) [52,.c (.int .i64 1),.c (.int .i64 6)] RL] 54 53 .F,.m 2 54] [2] .e))))⟩
theorem ZV:At Tryz.prog 121 GT=true:=by kernel_rfl
def N2:AH:=(.cond 87 (.R [.m 88 0,.m 89 1,.m 90 2,.m 91 11,.cl 92 [88,89,90,91] LA,.m 13 92] [0,2,3,8,9,13] (.R [.m 93 13,.m 1 93] [0,1,2,3,8,9] (.exit 1))) .k)
def N3:AH:=(.R [.m 95 0,.m 96 1,.m 97 2,.m 98 11,.cl 99 [95,96,97,98] Ow,.m 94 99,.ext 100 94 0,.ext 101 94 1,.m 14 100,.m 15 101] [0,1,2,3,10,14,15] (.R [.m 102 15,.m 9 102] [0,1,2,3,9,10,14] (.R [.m 103 14,.m 104 1,.b 105 .sub 103 104,.m 106 2,.m 107 14,.b 108 .sub 106 107,.m 16 105,.m 17 108] [0,1,2,3,9,10,14,16,17] (.R [.m 109 10,.bin 110 .quo 109 (.i 8),.m 18 110] [0,1,2,3,9,14,16,17,18] (.R [.m 111 16,.m 112 17,.b 113 .lss 111 112] [0,1,2,3,9,14,16,17,18,113] (.cond 113 (.R [.m 114 16,.m 115 18,.b 116 .geq 114 115,.m 8 116] [0,1,2,3,8,9,14] (.R [.m 117 0,.m 118 1,.m 119 14,.m 120 3,.cl 121 [117,118,119,120] Ez] [0,2,3,8,9,14] (.r [.m 122 14,.bin 123 .add 122 (.i 1),.m 1 123] [0,1,2,3,8,9]))) (.R [.m 124 17,.m 125 18,.b 126 .geq 124 125,.m 8 126] [0,1,2,3,8,9,14] (.R [.m 127 0,.m 128 14,.bin 129 .add 128 (.i 1),.m 130 2,.m 131 3,.cl 132 [127,129,130,131] Ez] [0,1,3,8,9,14] (.r [.m 133 14,.m 2 133] [0,1,2,3,8,9])))))))))
def N4:AH:=(.s (.s (.D 15 [(4,[2]),(6,[3,5]),(8,[2]),(9,[2]),(10,[8,9]),(12,[7,11])] (.tk 3 [.m 75 74,.bin 74 .gtr 73 (.i 0),.m 73 1] (.test 75 (.tg 75 true 12 [.l 84 83,.idx 83 1 81 82,.m 82 11,.m 81 0,.l 80 79,.idx 79 1 76 78,.bin 78 .sub 77 (.i 1),.m 77 1,.m 76 0] (.only 12 (some (75,true)) (.cl 85 [80,84] ZF) false [] (.tg 75 true 14 [.un 86 .not 85] (.tk 15 [.pick 87 75 86 .F] .z)))) (.sk 75 true 11 14 87 (.tk 15 [.pick 87 75 86 .F] .z)))) [0,1,2,3,8,9,10,11,87]) N2) N3)
def N5:AH:=(.seqc [0,1,2,3,8,9,10,11] (.R [.m 61 8,.m 62 61,.sc 62 true [.m 63 9] 64 63 .F,.m 65 64,.sc 65 true [.m 66 12,.bin 67 .eql 66 (.i 1)] 68 67 .F] [0,1,2,3,8,9,10,11,68] (.cond 68 (.R [.m 69 0,.m 70 1,.m 71 2,.cl 72 [69,70,71] IP] [0,1,2,3,8,9,10,11,72] (.cond 72 .e .k)) .k)) N4)
def HA:AH:=(.R [.m 43 0,.m 44 1,.m 45 2,.cl 46 [43,44,45] NM,.m 42 46,.ext 47 42 0,.ext 48 42 1,.m 11 47,.m 12 48] [0,1,2,3,8,9,10,11,12] (.seqc [0,1,2,3,8,9,10,11,12] (.R [.m 49 12,.bin 50 .eql 49 (.i 2)] [0,1,2,3,8,9,10,11,12,50] (.cond 50 (.R [.m 51 0,.m 52 1,.m 53 2,.cl 54 [51,52,53] MN] [0,1,2,3,8,9,10,11] (.R [.m 55 2,.bin 56 .sub 55 (.i 1),.m 57 11,.m 58 1,.b 59 .sub 57 58,.b 60 .sub 56 59,.m 11 60] [0,1,2,3,8,9,10,11] (.r [.mv 12 (.i 1)] [0,1,2,3,8,9,10,11,12]))) .k)) N5))
def HB:AH:=(.b 1 [0,1,2,3,8,9] (.R [.m 19 2,.m 20 1,.b 21 .sub 19 20,.m 10 21] [0,1,2,3,8,9,10] (.s (.R [.m 22 10,.bin 23 .leq 22 (.i 12)] [0,1,2,3,8,9,10,23] (.cond 23 (.R [.m 24 0,.m 25 1,.m 26 2,.cl 27 [24,25,26] L6] [] .e) .k)) (.s (.R [.m 28 3,.bin 29 .eql 28 (.i 0)] [0,1,2,3,8,9,10,29] (.cond 29 (.R [.m 30 0,.m 31 1,.m 32 2,.cl 33 [30,31,32] Pb] [] .e) .k)) (.seqc [0,1,2,3,8,9,10] (.R [.m 34 8,.un 35 .not 34] [0,1,2,3,8,9,10,35] (.cond 35 (.R [.m 36 0,.m 37 1,.m 38 2,.cl 39 [36,37,38] L7] [0,1,2,3,8,9,10] (.r [.m 40 3,.bin 41 .sub 40 (.i 1),.m 3 41] [0,1,2,3,8,9,10])) .k)) HA)))))
def BM:BI:=⟨[.mut (.own 3 .W),.val .W,.val .W,.val .W],[],(.R [.mv 8 .V] [0,1,2,3,8] (.R [.mv 9 .V] [0,1,2,3,8,9] (.b 0 [] (.loop [0,1,2,3,8,9] HB))))⟩
theorem Qu:At Tryz.prog 122 BM=true:=by kernel_rfl
def Kt:BI:=⟨[.val (.int .u64)],[⟨2,false,.W⟩],(.R [.mv 2 (.i 0)] [0] (.s (.cond .F (.R [.m 3 0,.cvi 4 .u32 3,.cl 5 [4] gC,.m 2 5] [2] .e) .k) (.R [.m 6 0,.cl 7 [6] gD,.m 2 7] [2] .e)))⟩
theorem nt:At Tryz.prog 123 Kt=true:=by kernel_rfl
def VY:DT:=(.tg 20 false 15 [.pick 31 22 30 .F] (.tk 16 [.pick 32 20 .V 31] .z))
def VZ:AH:=(.s (.R [.m 44 5,.cl 45 [44] MM,.un 46 .not 45] [0,5,46] (.cond 46 (.R [.m 47 0,.cl 48 [47] Ap,.m 4 48] [4] .e) .k)) (.R [.m 49 5,.m 4 49] [4] .e))
def Va:AH:=(.seqc [0,5] (.R [.m 34 7] [0,3,5,6,34] (.cond 34 (.r [.m 35 5,.m 36 6,.ls 37 3 3,.idx 38 3 35 36,.store 38 37 3 false] [0,5]) (.r [.m 39 5,.m 40 6,.ls 41 3 3,.brow 42 70 AG [41],.cl 43 [39,40,42] KW,.m 5 43] [0,5]))) VZ)
def EU:BI:=⟨[.val (.slice AG),.val AG],[⟨4,false,(.own 70 AG)⟩],(.R [.box 3 1 false,.mv 4 .z] [0,3] (.R [.m 8 0,.cl 9 [8] Ap,.m 5 9] [0,3,5] (.R [.m 11 0,.f 12 3 0,.l 13 12,.cx (some 14) [11,13,.c (.fn 139 [])] E0,.m 10 14,.ext 15 10 0,.ext 16 10 1,.m 6 15,.m 7 16] [0,3,5,6,7] (.s (.s (.D 16 [(7,[5]),(8,[6,7]),(11,[5]),(13,[10,12])] (.tk 1 [.m 17 0] (.O 1 (.cl 18 [17] MM) false [] (.tk 4 [.m 20 19,.un 19 .not 18] (.test 20 (.sk 20 false 2 6 23 (.sk 22 true 8 14 31 (.sk 20 false 1 15 32 (.tk 16 [.pick 32 20 .V 31] .z)))) (.tg 20 false 6 [.m 22 21,.m 21 7] (.test 22 (.tg 22 true 14 [.b 30 .geq 27 29,.l 29 28,.f 28 3 2,.l 27 26,.f 26 25 2,.idx 25 3 23 24,.m 24 6,.m 23 0] VY) (.sk 22 true 8 14 31 VY))))))) [0,3,5,6,7,32]) (.cond 32 (.R [.m 33 5,.m 4 33] [4] .e) .k)) Va))))⟩
theorem rA:At Tryz.prog 124 EU=true:=by kernel_rfl
def ZW:AH:=(.cond 39 (.R [.mv 2 .V] [2] .e) (.R [.bin 43 .eql 38 (.i 5),.m 42 43] [1,42] (.cond 42 (.R [.f 44 1 5,.l 45 44,.len 46 false 45,.bin 47 .eql 46 (.i 1),.m 2 47] [2] .e) .k)))
def ZX:AH:=(.R [.f 48 1 5,.l 49 48,.len 50 false 49,.bin 51 .eql 50 (.i 0),.m 2 51] [2] .e)
def ZY:AH:=(.s (.R [.f 37 1 0,.l 38 37] [1,38] (.b 0 [1] (.seqc [1,38,39] (.R [.bin 40 .eql 38 (.i 2),.m 39 40] [1,38,39] (.cond 39 .k (.r [.bin 41 .eql 38 (.i 3),.m 39 41] [1,38,39]))) ZW))) ZX)
def E3:BI:=⟨[.val AI],[⟨2,false,.bool⟩],(.R [.box 1 0 false,.mv 2 .F] [1] (.s (.R [.f 3 1 0,.l 4 3,.cx (some 5) [4,.c (.int .i64 1),.c (.int .i64 8)] BF,.un 6 .not 5,.m 7 6,.sc 7 false [.f 8 1 1,.l 9 8,.cl 10 [9] IK,.un 11 .not 10] 12 .V 11,.m 13 12,.sc 13 false [.f 14 1 2,.l 15 14,.cl 16 [15] IK,.un 17 .not 16] 18 .V 17,.m 19 18,.sc 19 false [.f 20 1 3,.l 21 20,.cx (some 22) [21,.c (.int .i64 1),.c (.int .i64 9)] BF,.un 23 .not 22] 24 .V 23,.m 25 24,.sc 25 false [.f 26 1 4,.l 27 26,.cx (some 28) [27,.c (.int .i64 0),.c (.int .i64 1000000000)] BF,.un 29 .not 28] 30 .V 29,.m 31 30,.sc 31 false [.f 32 1 5,.l 33 32,.cl 34 [33] MM,.un 35 .not 34] 36 .V 35] [1,36] (.cond 36 (.R [.mv 2 .F] [2] .e) .k)) ZY))⟩
theorem vA:At Tryz.prog 125 E3=true:=by kernel_rfl
def O6:DT:=(.sk 31 true 5 19 37 (.tk 20 [.pick 37 31 36 .F] .z))
def O7:AH:=(.cond 37 (.s (.D 14 [(1,[]),(2,[]),(7,[1,6]),(9,[]),(11,[0,8,10])] (.tk 11 [.l 48 47,.f 47 5 5,.l 46 45,.idx 45 1 39 44,.bin 44 .sub 43 (.i 1),.l 43 42,.f 42 41 1,.n 41 40,.m 40 0,.m 39 1,.m 38 0] (.O 11 (.cl 49 [38,46,48] MK) false [] (.tk 14 [.mv 7 .z,.m 6 49] .z))) [6,7]) .e) .k)
def O8:AH:=(.cond 75 (.s (.D 11 [(1,[]),(5,[]),(7,[4,6]),(8,[0,7])] (.tk 7 [.l 82 81,.f 81 5 1,.l 80 79,.f 79 78 6,.n 78 77,.m 77 0,.m 76 0] (.O 7 (.cl 83 [80,82] ZG) false [] (.tk 10 [.f 85 84 6,.n 84 76] (.O 10 (.store 85 83 1 false) false [] .z)))) [0]) (.r [.m 86 0,.m 87 0,.n 88 87,.f 89 88 5,.l 90 89,.m 91 90,.sc 91 false [.m 92 0,.n 93 92,.f 94 93 6,.l 95 94,.len 96 false 95,.bin 97 .eql 96 (.i 0),.m 98 97,.sc 98 true [.m 99 0,.n 100 99,.f 101 100 3,.l 102 101] 103 102 .F] 104 .V 103,.n 105 86,.f 106 105 5,.store 106 104 1 false] [])) .k)
def NV:AH:=(.cond 107 (.R [.m 110 0,.ls 111 5 6,.cl 112 [110,111] bJ,.m 6 112,.mv 7 .z] [6,7] .e) (.R [.bin 114 .eql 9 (.i 6),.m 113 114] [0,5,9,113] (.cond 113 (.R [.m 115 0,.ls 116 5 6,.cx (some 117) [115,.c (.int .i64 1),116] Ox,.mv 6 .z,.m 7 117] [6,7] .e) (.R [.bin 119 .eql 9 (.i 8),.m 118 119] [0,5,118] (.cond 118 (.R [.m 120 0,.ls 121 5 6,.cx (some 122) [120,.c (.int .i64 2),121] Ox,.mv 6 .z,.m 7 122] [6,7] .e) .k)))))
def NW:AH:=(.R [.mv 6 .z,.mv 7 .z] [6,7] .e)
def CL:BI:=⟨[.ptr AB,.val (.slice .S),.val AI],[⟨6,false,(.slice AI)⟩,⟨7,false,(.slice BD)⟩],(.R [.box 5 2 false,.mv 6 .z,.mv 7 .z] [0,1,5] (.s (.R [.f 8 5 0,.l 9 8] [0,1,5,9] (.b 0 [] (.R [.bin 11 .eql 9 (.i 1),.m 10 11] [0,1,5,9,10] (.cond 10 (.R [.m 12 0,.m 13 1,.ls 14 5 6,.cl 15 [12,13,14] dI,.m 6 15,.mv 7 .z] [6,7] .e) (.R [.bin 17 .eql 9 (.i 2),.m 16 17] [0,1,5,9,16] (.cond 16 (.s (.D 20 [(2,[]),(6,[1,5])] (.tk 8 [.m 25 24,.b 24 .eql 19 23,.l 23 22,.f 22 21 1,.n 21 20,.m 20 0,.l 19 18,.f 18 5 3] (.test 25 (.tg 25 true 12 [.l 29 28,.f 28 27 4,.n 27 26,.m 26 0] (.tk 14 [.m 31 30,.pick 30 25 29 .F] (.test 31 (.tg 31 true 19 [.un 36 .not 35,.l 35 34,.f 34 33 3,.n 33 32,.m 32 0] (.tk 20 [.pick 37 31 36 .F] .z)) O6))) (.sk 25 true 4 12 30 (.tk 14 [.m 31 30,.pick 30 25 29 .F] O6)))) [0,1,5,37]) O7) (.R [.bin 51 .eql 9 (.i 3),.m 50 51] [0,1,5,9,50] (.cond 50 (.s (.D 11 [(1,[]),(2,[]),(5,[1,4]),(7,[]),(8,[0,6,7])] (.tk 8 [.ls 59 5 6,.l 58 57,.idx 57 1 53 56,.bin 56 .sub 55 (.i 1),.l 55 54,.f 54 5 3,.m 53 1,.m 52 0] (.O 8 (.cl 60 [52,58,59] YT) false [] (.tk 11 [.mv 7 .z,.m 6 60] .z))) [6,7]) .e) (.R [.bin 62 .eql 9 (.i 4),.m 61 62] [0,5,9,61] (.cond 61 (.s (.D 13 [(2,[]),(6,[1,5])] (.tk 8 [.m 70 69,.b 69 .eql 64 68,.l 68 67,.f 67 66 1,.n 66 65,.m 65 0,.l 64 63,.f 63 5 3] (.test 70 (.tg 70 true 12 [.l 74 73,.f 73 72 4,.n 72 71,.m 71 0] (.tk 13 [.pick 75 70 74 .F] .z)) (.sk 70 true 4 12 75 (.tk 13 [.pick 75 70 74 .F] .z)))) [0,5,75]) O8) (.seqc [0,5,9,107] (.R [.bin 108 .eql 9 (.i 5),.m 107 108] [0,5,9,107] (.cond 107 .k (.r [.bin 109 .eql 9 (.i 7),.m 107 109] [0,5,9,107]))) NV))))))))))) NW))⟩
theorem dU:At Tryz.prog 126 CL=true:=by kernel_rfl
def FK:AH:=(.s (.b 3 [0,1,2,6,7] (.D 18 [(1,[]),(2,[]),(3,[]),(5,[]),(6,[]),(8,[5,7]),(10,[]),(11,[]),(12,[10,11]),(14,[0,1,9,13]),(16,[2,4,15])] (.tk 15 [.idx 47 1 33 34,.l 46 45,.idx 45 1 43 44,.m 44 7,.m 43 0,.l 42 41,.idx 41 1 38 40,.bin 40 .sub 39 (.i 1),.m 39 7,.m 38 0,.bin 37 .sub 36 (.i 1),.m 36 7,.m 35 0,.m 34 7,.m 33 0] (.O 15 (.store 47 42 1 false) false [] (.tk 17 [.idx 48 1 35 37] (.O 17 (.store 48 46 1 false) false [] .z)))) [0,1,2,6,7])) (.r [.m 31 7,.bin 32 .sub 31 (.i 1),.m 7 32] [0,1,2,6,7]))
def FN:AH:=(.s (.s (.D 15 [(1,[]),(2,[0,1]),(5,[3]),(6,[4,5]),(8,[3]),(9,[3]),(11,[8,10]),(13,[7,12])] (.tk 4 [.m 19 18,.b 18 .gtr 16 17,.m 17 1,.m 16 7] (.test 19 (.tg 19 true 13 [.l 28 27,.idx 27 1 24 26,.bin 26 .sub 25 (.i 1),.m 25 7,.m 24 0,.l 23 22,.idx 22 1 20 21,.m 21 7,.m 20 0] (.only 13 (some (19,true)) (.cl 29 [23,28] ZF) false [] (.tk 15 [.pick 30 19 29 .F] .z))) (.sk 19 true 10 14 30 (.tk 15 [.pick 30 19 29 .F] .z)))) [0,1,2,6,7,30]) (.cond 30 .k (.exit 2))) FK)
def FO:AH:=(.r [.m 13 6,.bin 14 .add 13 (.i 1),.m 6 14] [0,1,2,6])
def FP:AH:=(.s (.R [.m 10 6,.m 11 2,.b 12 .lss 10 11] [0,1,2,6,12] (.cond 12 .k (.exit 0))) (.s (.b 1 [0,1,2,6] (.R [.m 15 6,.m 7 15] [0,1,2,6,7] (.b 2 [0,1,2,6] (.loop [0,1,2,6,7] FN)))) FO))
def AZ:BI:=⟨[.mut (.own 3 .W),.val .W,.val .W],[],(.R [.m 8 1,.bin 9 .add 8 (.i 1),.m 6 9] [0,1,2,6] (.b 0 [] (.loop [0,1,2,6] FP)))⟩
theorem L8:At Tryz.prog 127 AZ=true:=by kernel_rfl
def Mb:BI:=⟨[.val .W,.val .W],[⟨4,false,.bool⟩],(.R [.mv 4 .F] [0,1] (.R [.m 5 0,.cl 6 [5] W8,.m 7 6,.sc 7 true [.m 8 1,.cl 9 [8] W8,.un 10 .not 9] 11 10 .F,.m 12 11,.sc 12 false [.m 13 0,.m 14 1,.b 15 .lss 13 14] 16 .V 15,.m 4 16] [4] .e))⟩
theorem rB:At Tryz.prog 133 Mb=true:=by kernel_rfl
def QG:AH:=(.seqc [0,2] (.R [.m 13 0,.bin 14 .geq 13 (.c (.int .u64 256))] [0,2,14] (.cond 14 (.R [.m 15 0,.bin 16 .shr 15 (.c (.int .u64 8)),.m 0 16] [0,2] (.r [.m 17 2,.bin 18 .add 17 (.i 8),.m 2 18] [0,2])) .k)) (.R [.m 19 2,.m 20 0,.cvi 21 .u8 20,.sidx 22 (.c (.str ⟨qT⟩)) 21,.cvi 23 .i64 22,.b 24 .add 19 23,.m 2 24] [2] .e))
def QH:AH:=(.seqc [0,2] (.R [.m 7 0,.bin 8 .geq 7 (.c (.int .u64 65536))] [0,2,8] (.cond 8 (.R [.m 9 0,.bin 10 .shr 9 (.c (.int .u64 16)),.m 0 10] [0,2] (.r [.m 11 2,.bin 12 .add 11 (.i 16),.m 2 12] [0,2])) .k)) QG)
def Cv:BI:=⟨[.val (.int .u64)],[⟨2,false,.W⟩],(.R [.mv 2 (.i 0)] [0,2] (.seqc [0,2] (.R [.m 3 0,.bin 4 .geq 3 (.c (.int .u64 4294967296))] [0,2,4] (.cond 4 (.R [.m 5 0,.bin 6 .shr 5 (.c (.int .u64 32)),.m 0 6] [0] (.r [.mv 2 (.i 32)] [0,2])) .k)) QH))⟩
theorem gL:At Tryz.prog 137 Cv=true:=by kernel_rfl
def CS:AH:=(.s (.R [.m 15 9,.m 16 10,.b 17 .lss 15 16] [0,1,2,8,9,10,17] (.cond 17 .k (.exit 0))) (.b 1 [0,1,2,8,9,10] (.R [.m 18 9,.m 19 10,.b 20 .add 18 19,.cvi 21 .u64 20,.bin 22 .shr 21 (.c (.int .u64 1)),.cvi 23 .i64 22,.m 11 23] [0,1,2,8,9,10,11] (.R [.m 24 2,.m 25 0,.m 26 11,.idx 27 3 25 26,.ls 28 27 3,.m 29 1,.call (some 30) 139 [(.t 28,.val AG),(.t 29,.val .str),(.t 24,.cap0 139)] [.W],.bin 31 .lss 30 (.i 0)] [0,1,2,8,9,10,11,31] (.cond 31 (.r [.m 32 11,.bin 33 .add 32 (.i 1),.m 9 33] [0,1,2,8,9,10]) (.r [.m 34 11,.m 10 34] [0,1,2,8,9,10]))))))
def BV:AH:=(.R [.m 35 9,.m 36 9,.m 37 8,.b 38 .lss 36 37,.m 39 38,.sc 39 true [.m 40 2,.m 41 0,.m 42 9,.idx 43 3 41 42,.ls 44 43 3,.m 45 1,.call (some 46) 139 [(.t 44,.val AG),(.t 45,.val .str),(.t 40,.cap0 139)] [.W],.bin 47 .eql 46 (.i 0)] 48 47 .F,.m 6 35,.m 7 48] [6,7] .e)
def AR:BI:=⟨[.val (.slice AG),.val .str,.val (.fun 139)],[⟨6,false,.W⟩,⟨7,false,.bool⟩],(.R [.mv 6 (.i 0),.mv 7 .F] [0,1,2] (.R [.m 12 0,.len 13 false 12,.m 8 13] [0,1,2,8] (.R [.m 14 8,.mv 9 (.i 0),.m 10 14] [0,1,2,8,9,10] (.s (.b 0 [0,1,2,8,9] (.loop [0,1,2,8,9,10] CS)) BV))))⟩
theorem E4:At Tryz.prog 138 AR=true:=by kernel_rfl
def JU:BI:=⟨[.val AG,.val .str],[⟨4,false,.W⟩],(.R [.box 2 0 false,.mv 4 (.i 0)] [1,2] (.R [.f 5 2 0,.l 6 5,.m 7 1,.cl 8 [6,7] gE,.m 4 8] [4] .e))⟩
theorem kP:At Tryz.prog 139 JU=true:=by kernel_rfl
def NX:DT:=(.sk 22 false 14 30 37 (.tk 31 [.pick 37 22 .V 36] .z))
def NY:AH:=(.R [.m 38 0,.m 39 0,.f 40 5 3,.l 41 40,.n 42 38,.f 43 42 1,.store 43 41 1 false,.n 44 39,.f 45 44 3,.store 45 .F 1 false] [0,5] (.R [.m 46 0,.cl 47 [46] MJ] [0,5] (.s (.D 11 [(1,[]),(4,[]),(9,[0,3,8])] (.tk 3 [.l 50 49,.f 49 5 1,.m 48 0] (.tk 9 [.bu 56 AI [(0,1,.c (.int .i64 2)),(5,1,55)],.l 55 54,.f 54 53 7,.n 53 52,.m 52 0] (.O 3 (.brow 51 3 .W [50]) false [] (.O 9 (.cl 57 [48,51,56] Bm) false [] (.tk 11 [.m 6 57] .z))))) [6]) .e)))
def D7:BI:=⟨[.ptr AB,.val (.slice .S),.val AI],[⟨6,false,(.slice AI)⟩],(.R [.box 5 2 false,.mv 6 .z] [0,1,5] (.s (.s (.D 31 [(2,[]),(7,[1,6]),(17,[15]),(22,[16,21]),(24,[15]),(28,[23,27])] (.tk 9 [.m 15 14,.b 14 .neq 8 13,.bin 13 .add 12 (.i 1),.l 12 11,.f 11 10 1,.n 10 9,.m 9 0,.l 8 7,.f 7 5 3] (.test 15 (.sk 15 false 5 14 21 (.tk 16 [.m 22 21,.pick 21 15 .V 20] NX)) (.tg 15 false 14 [.un 20 .not 19,.l 19 18,.f 18 17 3,.n 17 16,.m 16 0] (.tk 16 [.m 22 21,.pick 21 15 .V 20] (.test 22 NX (.tg 22 false 28 [.l 34 33,.f 33 32 0,.n 32 31,.m 31 0,.l 30 29,.idx 29 1 23 28,.bin 28 .sub 27 (.i 1),.l 27 26,.f 26 25 1,.n 25 24,.m 24 0,.m 23 1] (.only 28 (some (22,false)) (.cl 35 [30,34] GD) false [] (.tg 22 false 30 [.un 36 .not 35] (.tk 31 [.pick 37 22 .V 36] .z))))))))) [0,5,37]) (.cond 37 (.R [.mv 6 .z] [6] .e) .k)) NY))⟩
theorem dV:At Tryz.prog 142 D7=true:=by kernel_rfl
def Ls:DT:=(.tg 32 false 20 [.pick 44 38 43 .F] (.tk 22 [.m 24 45,.pick 45 32 .V 44] .z))
def Lt:AH:=(.cond 24 (.s (.D 21 [(1,[]),(2,[]),(3,[]),(4,[]),(6,[]),(9,[0,5,8]),(12,[1,11]),(15,[2,14]),(18,[3,17])] (.tk 8 [.l 53 52,.f 52 5 5,.l 51 50,.f 50 5 3,.m 49 0,.m 48 0,.m 47 0,.m 46 0] (.O 8 (.cl 54 [53] Ap) false [] (.tk 11 [.f 56 55 1,.n 55 46] (.O 11 (.store 56 51 1 false) false [] (.tk 14 [.f 58 57 3,.n 57 47] (.O 14 (.store 58 .V 1 false) false [] (.tk 17 [.f 60 59 2,.n 59 48] (.O 17 (.store 60 .F 1 false) false [] (.tk 20 [.f 62 61 7,.n 61 49] (.O 20 (.store 62 54 1 false) false [] .z)))))))))) [0,5]) (.r [.m 63 0,.cl 64 [63] MJ] [0,5])) (.R [.m 66 0,.n 67 66,.f 68 67 3,.l 69 68,.un 70 .not 69,.m 65 70] [0,5,65] (.cond 65 (.R [.mv 6 .z] [6] .e) .k)))
def Lu:AH:=(.R [.m 71 0,.f 72 5 1,.l 73 72,.brow 74 3 .W [73],.bu 75 AI [(0,1,.c (.int .i64 4))],.cl 76 [71,74,75] Bm,.m 6 76] [6] .e)
def Lv:AH:=(.s (.b 0 [0,5] (.s (.D 22 [(2,[]),(6,[1,5])] (.tk 8 [.m 32 31,.b 31 .gtr 26 30,.l 30 29,.f 29 28 1,.n 28 27,.m 27 0,.l 26 25,.f 25 5 3] (.test 32 (.sk 32 false 6 14 39 (.sk 38 true 5 19 44 (.sk 32 false 1 20 45 (.tk 22 [.m 24 45,.pick 45 32 .V 44] .z)))) (.tg 32 false 14 [.m 38 37,.un 37 .not 36,.l 36 35,.f 35 34 3,.n 34 33,.m 33 0] (.test 38 (.tg 38 true 19 [.un 43 .not 42,.l 42 41,.f 41 40 2,.n 40 39,.m 39 0] Ls) (.sk 38 true 5 19 44 Ls))))) [0,5,24]) Lt)) Lu)
def Bn:BI:=⟨[.ptr AB,.val .S,.val AI],[⟨6,false,(.slice AI)⟩],(.R [.box 5 2 false,.mv 6 .z] [0,1,5] (.s (.s (.D 17 [(1,[]),(5,[0,4]),(11,[7]),(15,[10,14])] (.tk 5 [.l 11 10,.f 10 9 0,.n 9 8,.m 8 0,.m 7 1] (.O 5 (.cl 12 [7,11] GD) false [] (.tk 8 [.m 14 13,.un 13 .not 12] (.test 14 (.sk 14 false 8 16 23 (.tk 17 [.pick 23 14 .V 22] .z)) (.tg 14 false 16 [.b 22 .eql 17 21,.l 21 20,.f 20 19 0,.n 19 18,.m 18 0,.l 17 16,.idx 16 1 15 (.i 0),.m 15 1] (.tk 17 [.pick 23 14 .V 22] .z)))))) [0,5,23]) (.cond 23 (.R [.mv 6 .z] [6] .e) .k)) Lv))⟩
theorem YX:At Tryz.prog 143 Bn=true:=by kernel_rfl

def Mc:BI:=⟨[.val .S,.val .W],[⟨4,false,.S⟩],(.R [.fbox 3 1,.mv 4 .z] [0,3] (.R [.m 5 0,.cl 6 [5] BX,.clo 7 157 .W 3,.cl 8 [6,7] Qp,.m 4 8] [4] .e))⟩
theorem rC:At Tryz.prog 144 Mc=true:=by kernel_rfl
def NZ:AH:=(.s (.R [.f 19 3 0,.l 20 19,.bin 21 .eql 20 (.i 7)] [0,3,21] (.cond 21 (.R [.m 22 0,.f 23 3 1,.l 24 23,.brow 25 3 .W [24],.f 26 3 4,.l 27 26,.bu 28 AI [(0,1,.c (.int .i64 8)),(4,1,27)],.cl 29 [22,25,28] Bm,.m 4 29] [4] .e) .k)) (.s (.D 13 [(1,[]),(5,[]),(9,[4,8]),(10,[0,9])] (.tk 9 [.ls 38 37 3,.idx 37 3 36 (.i 0),.l 36 35,.f 35 3 5,.l 34 33,.f 33 32 7,.n 32 31,.m 31 0,.m 30 0] (.O 9 (.cl 39 [34,38] ZE) false [] (.tk 12 [.f 41 40 7,.n 40 30] (.O 12 (.store 41 39 1 false) false [] .z)))) [0,3]) (.R [.m 42 0,.f 43 3 1,.l 44 43,.brow 45 3 .W [44],.f 46 3 4,.l 47 46,.bu 48 AI [(0,1,.c (.int .i64 6)),(4,1,47)],.cl 49 [42,45,48] Bm,.m 4 49] [4] .e)))
def Dh:BI:=⟨[.ptr AB,.val AI],[⟨4,false,(.slice AI)⟩],(.R [.box 3 1 false,.mv 4 .z] [0,3] (.s (.s (.D 14 [(2,[]),(6,[1,5])] (.tk 8 [.m 12 11,.b 11 .neq 6 10,.l 10 9,.f 9 8 1,.n 8 7,.m 7 0,.l 6 5,.f 5 3 3] (.test 12 (.sk 12 false 5 13 18 (.tk 14 [.pick 18 12 .V 17] .z)) (.tg 12 false 13 [.un 17 .not 16,.l 16 15,.f 15 14 3,.n 14 13,.m 13 0] (.tk 14 [.pick 18 12 .V 17] .z)))) [0,3,18]) (.cond 18 (.R [.mv 4 .z] [4] .e) .k)) NZ))⟩
theorem bN:At Tryz.prog 145 Dh=true:=by kernel_rfl
def Md:DT:=(.sk 23 false 8 25 32 (.tk 26 [.pick 32 23 .V 31] .z))
def Lw:AH:=(.s (.D 13 [(1,[]),(6,[]),(8,[5,7]),(9,[0,8])] (.tk 8 [.l 40 39,.f 39 5 1,.l 38 37,.f 37 36 6,.f 36 35 9,.n 35 34,.m 34 0,.m 33 0] (.O 8 (.cl 41 [38,40] ZG) false [] (.tk 12 [.f 44 43 6,.f 43 42 9,.n 42 33] (.O 12 (.store 44 41 1 false) false [] .z)))) [0]) (.s (.R [.m 45 0,.n 46 45,.f 47 46 9,.f 48 47 6,.l 49 48,.len 50 false 49,.bin 51 .gtr 50 (.i 0)] [0,51] (.cond 51 (.R [.mv 6 .z] [6] .e) .k)) (.R [.m 52 0,.cl 53 [52] RK,.m 6 53] [6] .e)))
def DL:BI:=⟨[.ptr AB,.val .W,.val AI],[⟨6,false,(.slice BD)⟩],(.R [.box 5 2 false,.mv 6 .z] [0,1,5] (.s (.s (.D 26 [(2,[]),(6,[1,5]),(13,[7]),(14,[12,13]),(22,[16]),(24,[21,23])] (.tk 8 [.m 14 13,.b 13 .neq 8 12,.l 12 11,.f 11 10 1,.n 10 9,.m 9 0,.l 8 7,.f 7 5 3] (.test 14 (.sk 14 false 7 15 22 (.tk 17 [.m 23 22,.pick 22 14 .V 21] Md)) (.tg 14 false 15 [.b 21 .neq 19 20,.m 20 1,.l 19 18,.f 18 17 0,.f 17 16 9,.n 16 15,.m 15 0] (.tk 17 [.m 23 22,.pick 22 14 .V 21] (.test 23 Md (.tg 23 false 25 [.b 31 .neq 28 30,.l 30 29,.f 29 5 4,.l 28 27,.f 27 26 2,.f 26 25 9,.n 25 24,.m 24 0] (.tk 26 [.pick 32 23 .V 31] .z))))))) [0,5,32]) (.cond 32 (.R [.mv 6 .z] [6] .e) .k)) Lw))⟩
theorem ZZ:At Tryz.prog 146 DL=true:=by kernel_rfl
def Ku:BI:=⟨[.val .W],[⟨2,false,.bool⟩],(.R [.mv 2 .F] [0] (.R [.m 3 0,.m 4 0,.b 5 .neq 3 4,.m 2 5] [2] .e))⟩
theorem nu:At Tryz.prog 152 Ku=true:=by kernel_rfl
def Rk:AH:=(.s (.R [.m 8 4,.m 9 0,.len 10 false 9,.b 11 .lss 8 10] [0,3,4,11] (.cond 11 .k (.exit 0))) (.s (.b 1 [0,3,4] (.r [.m 14 3,.m 15 4,.m 16 0,.m 17 4,.idx 18 1 16 17,.l 19 18,.cl 20 [19] cN,.idx 21 1 14 15,.store 21 20 1 false] [0,3,4])) (.r [.m 12 4,.bin 13 .add 12 (.i 1),.m 4 13] [0,3,4])))
def Rl:AH:=(.R [.m 22 3,.m 2 22] [2] .e)
def DM:BI:=⟨[.val (.slice .S)],[⟨2,false,(.own 31 (.own 3 .W))⟩],(.R [.mv 2 .z] [0] (.R [.m 5 0,.len 6 false 5,.mk 7 31 (.own 3 .W) 6,.m 3 7] [0,3] (.s (.R [.mv 4 (.i 0)] [0,3,4] (.b 0 [3] (.loop [0,3,4] Rk))) Rl)))⟩
theorem kQ:At Tryz.prog 2000007 DM=true:=by kernel_rfl
def QI:AH:=(.s (.R [.m 8 4,.m 9 0,.len 10 false 9,.b 11 .lss 8 10] [0,3,4,11] (.cond 11 .k (.exit 0))) (.s (.b 1 [0,3,4] (.r [.m 14 3,.m 15 4,.m 16 0,.m 17 4,.idx 18 6 16 17,.ls 19 18 6,.cl 20 [19] Y7,.idx 21 6 14 15,.store 21 20 6 false] [0,3,4])) (.r [.m 12 4,.bin 13 .add 12 (.i 1),.m 4 13] [0,3,4])))
def QJ:AH:=(.R [.m 22 3,.m 2 22] [2] .e)
def Cw:BI:=⟨[.val (.slice AO)],[⟨2,false,(.own 51 AO)⟩],(.R [.mv 2 .z] [0] (.R [.m 5 0,.len 6 false 5,.mk 7 51 AO 6,.m 3 7] [0,3] (.s (.R [.mv 4 (.i 0)] [0,3,4] (.b 0 [3] (.loop [0,3,4] QI))) QJ)))⟩
theorem gM:At Tryz.prog 2000008 Cw=true:=by kernel_rfl
def O9:AH:=(.R [.b 9 .lss 8 7] [3,6,7,8,9] (.s (.cond 9 .k (.exit 0)) (.s (.b 1 [3,6,7,8] (.R [.idx 10 1 6 8,.l 11 10,.m 5 11] [3,5,6,7,8] (.r [.m 12 3,.m 13 5,.cl 14 [13] BX,.brow 15 31 (.own 3 .W) [14],.app 16 31 (.own 3 .W) 12 15,.m 3 16] [3,6,7,8]))) (.r [.bin 17 .add 8 (.i 1),.m 8 17] [3,6,7,8]))))
def O_:AH:=(.R [.m 18 3,.m 2 18] [2] .e)
def Cg:BI:=⟨[.val (.slice .S)],[⟨2,false,(.own 31 (.own 3 .W))⟩],(.R [.mv 2 .z] [0] (.R [.nilrow 3 31 (.own 3 .W)] [0,3] (.s (.R [.m 6 0,.len 7 false 6,.mv 8 (.i 0)] [3,6,7,8] (.b 0 [3] (.loop [3,6,7,8] O9))) O_)))⟩
theorem dW:At Tryz.prog 2000057 Cg=true:=by kernel_rfl
def Gs:BI:=⟨[.val AB],[⟨2,true,Ai⟩],(.R [.box 1 0 false,.al 2 Ai] [1,2] (.s (.D 17 [(3,[]),(5,[2,4]),(6,[]),(9,[5,8]),(10,[2,4,8]),(11,[9,10])] (.tk 2 [.l 4 3,.f 3 1 6] (.tk 5 [.l 7 6,.f 6 1 7] (.tk 9 [.l 11 10,.f 10 9 6,.f 9 1 9] (.O 2 (.cl 5 [4] BX) false [] (.tk 11 [.f 13 1 6] (.O 5 (.cl 8 [7] Ap) false [] (.O 9 (.cl 12 [11] BX) false [] (.O 11 (.store 13 5 1 true) false [] (.tk 13 [.f 14 1 7] (.O 13 (.store 14 8 1 true) false [] (.tk 16 [.f 16 15 6,.f 15 1 9] (.O 16 (.store 16 12 1 true) false [] .z)))))))))))) [1,2]) (.R [.ls 17 1 16,.store 2 17 16 true] [2] .e)))⟩
theorem bO:At Tryz.prog 2000068 Gs=true:=by kernel_rfl
def JV:BI:=⟨[.val AI],[⟨2,true,Bb⟩],(.R [.box 1 0 false,.al 2 Bb] [1,2] (.R [.f 3 1 5,.l 4 3,.cl 5 [4] Ap,.f 6 1 5,.store 6 5 1 true] [1,2] (.R [.ls 7 1 6,.store 2 7 6 true] [2] .e)))⟩
theorem kR:At Tryz.prog 2000069 JV=true:=by kernel_rfl
end
end Go.Proofs.YtfcgblnlopemkaaGreat.Core

namespace Go.Proofs.YtfcgblnlopemkaaGreat.Core
open Go Go.Shelf Go.RowKit Go.Lib
variable {P:Program} {ρ:Ren}
set_option maxHeartbeats 2000000 in
set_option maxRecDepth 100000 in
theorem AA3 (L:SlLaysE0.n41 P ρ) (i0:TypeInfo) (z:Value) (size bytes:Nat) (hi:P.info? (ρ.t 23)=some i0) (hz0:i0.zero=some z) (hz1:i0.size=size) (hz2:i0.bytes=bytes) (hzs:z.cells.size=size) (hsz:0<size)
  (z23:∀ w,(Go.sizeOf (ρ.t 23)).run P w=.ok size w) (ad:Addr) (n c:Nat) (news:List Value) (w:World) (hl:news.length=n*size) (hn:n<=maxLen) (hbig:n*bytes<=140737488355328)
  (hc:∀ j u,news[j]? = some u->w.cell? (ad.add j)=some u) (h1:∀ u∈news,u.oneCell'=true) :
  Calls P (ρ.f 41) #[.slice (some ad) n c] w fun e w'=>∃ v',e=.returned v'/\w'.ownsRow w.heap.size (ρ.t 23) size v' n news/\w.grownBy w' none:=by
 have mixed:=L.mixed; have t4:=L.t4; have a4:=L.a4; have z4:=L.z4; have v4:=L.v4; have t22:=L.t22; have a22:=L.a22; have z22:=L.z22; have v22:=L.v22
 have q22:∀ (w:World) (a:Option Addr) (n c n' c':Nat),(binOp .eql (ρ.t 22) (.slice a n c) (.slice none n' c')).run P w=.ok (.bool a.isNone) w:=fun w a n c n' c'=>Lib.run_eql_slice_nil w _ _ a n c n' c' L.t22
 have u22:∀ w,Sem.run P (underlying (ρ.t 22)) w=.ok (TypeDesc.slice (ρ.t 23)) w:=run_underlying t22
 have A:Aside (∀ j u,news[j]? = some u->w.cell? (ad.add j)=some u):=hc
 clear hc
 obtain ⟨_,_,FG⟩:=L.f41
 go_enter FG,SlBodyN.n41_ntmps ρ
 go_wp2_with (at_builtin; refine wpList_append_own _ rfl _ _ (ρ.t 22) rfl w.heap.size (ρ.t 23) i0 z size bytes t22 hi hz0 hz1 hz2 hzs hsz _ _ _ rfl (World.ownsRow_made w #[] 0 (Nat.le_refl _) (Nat.zero_le _) (by simp)) ad n c news rfl ?qc1 ?qc2 ?qc3 ?qc4 ?qc5 ?qc6 ?_)
 case qc1=>exact hl
 case qc2 =>
  intro j u hj
  exact Lib.cell?_alloc_some _ (A.out j u hj)
 case qc3=>exact h1
 case qc4=>rw [Nat.zero_add]; exact hn
 case qc5=>rw [Nat.zero_add]; exact hbig
 case qc6=>simp
 intro v' w1 hown hgrow hnil
 go_wp2
 go_ret
 refine ⟨v',rfl,by simpa using hown,⟨hgrow.os,hgrow.tape,hgrow.output,?_,fun k hk _=>?_⟩⟩
 ·have:=hgrow.size
  simp at this
  omega
 ·rw [hgrow.block k (by simp; omega) (by simp [Value.ownBlock]; omega)]
  simp only [World.alloc,Array.getElem?_push]
  rw [if_neg (by omega)]
set_option maxHeartbeats 1000000 in
theorem zu (L:SlLaysE0.n41 P ρ) (n c:Nat) (w:World) :
  Calls P (ρ.f 41) #[.slice none n c] w fun e w'=>e=.returned (.slice none 0 0)/\w'=w:=by
 have mixed:=L.mixed; have t4:=L.t4; have a4:=L.a4; have z4:=L.z4; have v4:=L.v4; have t22:=L.t22; have a22:=L.a22; have z22:=L.z22; have v22:=L.v22
 have q22:∀ (w:World) (a:Option Addr) (n c n' c':Nat),(binOp .eql (ρ.t 22) (.slice a n c) (.slice none n' c')).run P w=.ok (.bool a.isNone) w:=fun w a n c n' c'=>Lib.run_eql_slice_nil w _ _ a n c n' c' L.t22
 obtain ⟨_,_,FG⟩:=L.f41
 go_enter FG,SlBodyN.n41_ntmps ρ
 go_wp2
 go_ret
 exact ⟨rfl,rfl⟩
theorem Ie {α:Type} {c:Prop} [Decidable c] {a b r:α} (h:(if c then a else b)=r):(c/\a=r)\/(¬ c/\b=r):=by
 by_cases hc:c
 ·rw [if_pos hc] at h; exact .inl ⟨hc,h⟩
 ·rw [if_neg hc] at h; exact .inr ⟨hc,h⟩
def Wh (P:Program) (f:Nat) (args bs rs:List AV):Prop :=
 qA P f/\(∀ r∈rs,r.cells.all AV.nilFree=true)/\∃ n,n+bs.length=rs.length /\
  ∀ (H:HP) (φ:Bz) (w:World) (cargs:List Value),SR H φ (Bi bs args) w->As (VB H φ (Bi bs args)) (C8 (Fd bs) args) cargs ->
   Calls P f cargs.toArray w fun out w'=>match out with
    | .returned v=>OT H φ w args bs (rs.drop n) (rs.take n) v w'
    | _=>False
theorem wX {H H':HP} {φ φ':Bz} {w w':World} {args rs:List AV} {v:Value} (h:Af H φ (Bi [] args) w H' φ' (Bi [] rs) w') (hr:ACz H' φ' (Bi [] rs) (C8 (Fd []) rs) v):OT H φ w args [] [] rs v w':=by
 refine ⟨H',φ',h.le,h.sr,h.fr _ _ _ _ _ ⟨rfl,rfl,rfl,Nat.le_refl _,fun _ _ _=>rfl,fun _ _=>rfl,fun i bi hi _ b hb=>.inr ⟨i,(Aj.1 hi).1,hb⟩,fun j hj=>?_,fun _ _ _=>rfl⟩,hr⟩
 simp at hj
theorem AA4 {K:Kd} (L:SlLaysE0.n41 P ρ) (he:tu P (ρ.t 23) K=true) {xs:List K.T} (hx:xs.length<=68719476736):Wh P (ρ.f 41) [.lst K xs] [] [.new (ρ.t 23) K xs]:=by
 obtain ⟨i,z,hi,hz,h1,h2,h3,h4⟩:=Uj he
 have hn:xs.length<=maxLen:=by unfold maxLen; omega
 refine ⟨?_,?_,1,rfl,fun H φ w cargs hs ha=>?_⟩
 ·obtain ⟨nm,hnm,hf⟩:=L.f41
  exact ⟨_,_,hf,hnm,rfl⟩
 ·intro r hr
  simp only [C1] at hr
  subst hr
  rfl
 ·obtain ⟨v,rest,rfl,hv,hrest⟩:=ha
  have hrest:rest=[]:=hrest
  subst hrest
  ··obtain ⟨sl,cap,e,hc,hr⟩:=(show Ue (Fb H K) K.sz H xs v from hv)
    subst e
    have fin:∀ (v':Value) (w':World) (flat:List Value),w'.ownsRow w.heap.size (ρ.t 23) K.sz v' xs.length flat->DS H K xs flat->w.grownBy w' none->OT H φ w [.lst K xs] [] [] [.new (ρ.t 23) K xs] v' w':=by
     intro v' w' flat ho hrr hg
     have hst:=mq (st:=Bi [] [.lst K xs]) hs hg ho hrr
     refine wX (rs:=[.new (ρ.t 23) K xs]) hst ?_
     exact ⟨(Q9 ho).symm,rfl⟩
    cases sl with
    | none =>
     have:xs=[]:=by
      rcases hr with h | ⟨_,_,_,_,_,h,_⟩
      ·exact h
      ·cases h
     subst this
     refine Calls.mono (zu L _ _ w) fun out w' h=>?_
     obtain ⟨rfl,rfl⟩:=h
     exact fin _ _ [] ⟨by simp,.inl ⟨rfl,rfl⟩⟩ (fun j x h=>by simp at h) ⟨rfl,rfl,rfl,Nat.le_refl _,fun _ _ _=>rfl⟩
    | some ad =>
     obtain ⟨sl2,cap2,flat,e2,_,hl,hrr,hcl⟩:=tm hs.hp (show Ue (Fb H K) K.sz H xs (.slice (some ad) xs.length cap) from ⟨some ad,cap,rfl,hc,hr⟩)
     cases e2
     refine Calls.mono (AA3 L i z K.sz i.bytes hi hz h1 rfl h3 (Kd.sz_pos K) (fun w=>by simp [sizeOf,typeInfo,hi,h1]) ad xs.length cap flat w hl hn (Nat.le_trans (Nat.mul_le_mul hx h2) (by omega)) ?_ (EI hrr hl)) fun out w' h=>?_
     ·intro j u hj
      rcases hcl with rfl | ⟨b,off,c,el,fz,ea,hb,hcc⟩
      ·have:flat=[]:=C2.1 (by rw [hl]; simp)
       rw [this] at hj
       simp at hj
      ·cases ea
       rw [Addr.add_none]
       have:=hs.hp _ _ hb
       have h5:=hcc j u hj
       simp only [World.cell?,this]
       simpa using h5
     ·obtain ⟨v',rfl,ho,hg⟩:=h
      exact fin v' w' flat ho hrr hg

theorem TZ (w:World) (dT sT ty elem:TypeId) (g o dLen dCap:Nat) (a:Addr) (sLen sCap:Nat) (cur:Array Value) (t:TypeId) (cs:List Value) (k:Nat) (i:TypeInfo)
  (hu:P.underlying dT=some (.slice elem)) (hi:P.info? elem=some i) (hg:w.heap[g]? = some (.cells cur t (0,0))) (hk:Nat.min sLen dLen=k) (hn:cs.length=k*i.size)
  (hsrc:∀ j v,cs[j]? = some v->w.cell? (a.add j)=some v) (hfit:o+cs.length<=cur.size) (h1:∀ v∈cs,v.oneCell'=true) :
  (Builtin.copy_ #[dT,sT] ty #[.slice (some ⟨g,o,none⟩) dLen dCap,.slice (some a) sLen sCap]).run P w =
   .ok (goInt k) (w.setRow g (cur.toList.take o++cs++cur.toList.drop (o+cs.length)).toArray):=by
 have hl:=run_loadCells_list (P:=P) w a cs hsrc
 have hst:=run_storeCells_at P g o t cs 0 cur w hg (by simpa using hfit) h1
 simp [Builtin.copy_,run_underlying hu,Builtin.lenOf,Builtin.firstCells,sizeOf,typeInfo,hi,hk,<- hn,hl,hst]
theorem kS (w:World) (t tn ty e:TypeId) (i:TypeInfo) (z:Value) (kn:IntKind) (ht:P.underlying t=some (.slice e)) (htn:P.underlying tn=some (.int kn)) (hi:P.info? e=some i) (hz:i.zero=some z)
  (b:Addr) (sLen sCap:Nat) (olds:List Value) (hlo:olds.length=sLen*i.size) (holds:∀ j v,olds[j]? = some v->w.cell? (b.add j)=some v) (n:Nat) (h0:0<n) (hs:0<i.size)
  (hg:sCap<sLen+n) (h63:((sLen+n:Nat):Int)<=9223372036854775807) (h48:n*i.bytes<=281474976710656) (hfit:Builtin.nextslicecap (sLen+n) sCap*i.bytes<=281474976710656) (k:IntKind) :
  (Builtin.append_ #[t,tn] ty #[.slice (some b) sLen sCap,.int k n]).run P w =
   .ok (.slice (some ⟨w.heap.size,0,none⟩) (sLen+n) (grownCap w (sLen+n) sCap e))
    (w.drew.alloc (.cells (olds.toArray++Builtin.zeroCells z.cells n++Builtin.zeroCells z.cells (grownCap w (sLen+n) sCap e-(sLen+n))) e)):=by
 have hn:¬ (sLen+n<=sCap):=by omega
 have hw:IntKind.i64.wrap (n:Int)=n:=by rw [IntKind.wrap_i64]; omega
 have h63':¬ (9223372036854775807<((sLen:Int)+(n:Int))):=by omega
 have h48':¬ (281474976710656<Builtin.nextslicecap (sLen+n) sCap*i.bytes):=by omega
 have h48i:¬ (281474976710656<(n:Int)*(i.bytes:Int)):=by
  rw [<- Int.natCast_mul]
  omega
 have hneg:¬ ((n:Int)<0):=by omega
 have hn0:n≠0:=by omega
 have hns:¬ (n*i.size=0):=Nat.mul_ne_zero hn0 (by omega)
 have hfo:=run_firstCells_some (P:=P) w.drew i.size sLen b sLen sCap olds hlo (by simpa using holds)
 simp [Builtin.append_,run_underlying ht,run_underlying htn,sizeOf,typeInfo,zeroValue,hi,hz,asInt,asIntOf,hw,hn,hn0,hneg,hns,h63',h48',h48i,Question.forced,hfo,newRow,grownCap]
 try (congr 2; apply Array.ext'; simp [BW])
structure zv (P:Program) (ρ:Ren):Prop where
 mixed:P.follows .mixedOrders=true
 f22:Bears P (ρ.f 22) (Body2.n22 ρ)
 ov:∀ args w,(callFunc (ρ.f 29) args).run P w=((Extern.SlicesOverlaps.overlaps #[(ρ.t 24),(ρ.t 24)] #[(ρ.t 4)] args).run P w).andThen fun v w'=>.ok (.value v) w'
 t3:P.underlying (ρ.t 3)=some (TypeDesc.int IntKind.i64)
 a3:∀ w,(isAgg (ρ.t 3)).run P w=.ok false w
 z3:∀ w,(Go.sizeOf (ρ.t 3)).run P w=.ok 1 w
 v3:∀ w,(zeroValue (ρ.t 3)).run P w=.ok (Value.int IntKind.i64 0) w
 t4:P.underlying (ρ.t 4)=some (TypeDesc.bool)
 a4:∀ w,(isAgg (ρ.t 4)).run P w=.ok false w
 z4:∀ w,(Go.sizeOf (ρ.t 4)).run P w=.ok 1 w
 v4:∀ w,(zeroValue (ρ.t 4)).run P w=.ok (Value.bool false) w
 t24:P.underlying (ρ.t 24)=some (TypeDesc.slice (ρ.t 9))
 a24:∀ w,(isAgg (ρ.t 24)).run P w=.ok false w
 z24:∀ w,(Go.sizeOf (ρ.t 24)).run P w=.ok 1 w
 v24:∀ w,(zeroValue (ρ.t 24)).run P w=.ok (Value.slice none 0 0) w
set_option maxHeartbeats 4000000 in
set_option maxRecDepth 100000 in
theorem xx (L:zv P ρ) (i0:TypeInfo) (z:Value) (size bytes:Nat) (hi:P.info? (ρ.t 9)=some i0) (hz0:i0.zero=some z) (hz1:i0.size=size) (hz2:i0.bytes=bytes) (hzs:z.cells.size=size) (hsz:0<size)
  (z9:∀ w,(Go.sizeOf (ρ.t 9)).run P w=.ok size w) (v:Value) (base:Option Addr) (n cap:Nat) (hv:v=.slice base n cap) (xs:List Value) (w:World) (hown:w.ownsRow 0 (ρ.t 9) size v n xs) (ad:Addr) (m vc:Nat) (news:List Value) (hm:0<m)
  (hl:news.length=m*size) (hn:n+m<=maxLen) (hbig:(n+m)*bytes<=140737488355328) (hnews:∀ j u,news[j]? = some u->w.cell? (ad.add j)=some u) (h1:∀ u∈news,u.oneCell'=true) :
  Calls P (ρ.f 22) #[v,.int .i64 n,.slice (some ad) m vc] w fun e w'=>∃ v',e=.returned v'/\w'.ownsRow 0 (ρ.t 9) size v' (n+m) (xs++news)/\w.grownBy w' v.ownBlock/\(v'.ownBlock=v.ownBlock\/v'.ownBlock=some w.heap.size):=by
 subst hv
 have mixed:=L.mixed; have t3:=L.t3; have a3:=L.a3; have z3:=L.z3; have v3:=L.v3; have t4:=L.t4; have a4:=L.a4; have z4:=L.z4; have v4:=L.v4; have t24:=L.t24; have a24:=L.a24; have z24:=L.z24; have v24:=L.v24
 have u3:=run_underlying L.t3; have u4:=run_underlying L.t4; have u24:=run_underlying L.t24
 have hz1':¬ ((m:Int)=0):=by omega
 have hob:∀ c,(Value.slice base n c).ownBlock=(Value.slice base n cap).ownBlock:=fun c=>by cases base<;>rfl
 have hcap:n<=cap:=by
  rcases hown.2 with ⟨e,e2⟩ | ⟨g,c,cur,e,_,_,h,_⟩
  ·omega
  ·cases e; exact h
 have A:Aside (∀ j u,news[j]? = some u->w.cell? (ad.add j)=some u):=hnews
 clear hnews
 obtain ⟨_,_,FG⟩:=L.f22
 go_enter FG,Body2.n22_ntmps ρ
 go_wp2_with (at_builtin; refine wpList_append_own_at _ rfl _ _ (ρ.t 24) rfl 0 (ρ.t 9) i0 z size bytes t24 hi hz0 hz1 hz2 hzs hsz _ _ _ rfl hown ad m vc news rfl ?qc1 ?qc2 ?qc3 ?qc4 ?qc5 ?qc6 ?_)
 all_goals first
  | exact hl
  | exact A.out
  | exact h1
  | exact hn
  | exact hbig
  | exact Nat.zero_le _
  | (
   intro v' w1 ho hgrow hnil hblk
   go_wp2
   go_ret
   exact ⟨v',rfl,ho,by rw [<- hob]; exact hgrow,by rw [<- hob]; exact hblk⟩)
theorem AA5 {α:Type} (c V:List α) (I M N:Nat) (hI:I<=N) (hV:V.length=M) (hN:N+M<=c.length) :
  (((c.take (I+M)++(c.take N).drop I++c.drop (I+M+(N-I))).take I++V++(c.take (I+M)++(c.take N).drop I++c.drop (I+M+(N-I))).drop (I+M)).take (N+M))=c.take I++V++(c.take N).drop I:=by
 have l1:(c.take (I+M)).length=I+M:=by rw [List.length_take]; omega
 have l2:((c.take N).drop I).length=N-I:=by rw [List.length_drop,List.length_take]; omega
 have e1:(c.take (I+M)++(c.take N).drop I++c.drop (I+M+(N-I))).take I=c.take I:=by
  rw [BW,List.take_append_of_le_length (by omega),List.take_take,Nat.min_eq_left (by omega)]
 have e2:(c.take (I+M)++(c.take N).drop I++c.drop (I+M+(N-I))).drop (I+M)=(c.take N).drop I++c.drop (I+M+(N-I)):=by
  rw [BW,List.drop_append_of_le_length (by omega),List.drop_of_length_le (by omega),List.nil_append]
 rw [e1,e2,<- BW]
 have l3:(c.take I++V++(c.take N).drop I).length=N+M:=by simp only [List.length_append,l2,hV,List.length_take]; omega
 rw [List.take_append_of_le_length (by omega),<- l3,List.take_length]
theorem JW (w:World) (g:Nat) (c:Array Value):(w.setRow g c).heap.size=w.heap.size:=by
 unfold World.setRow
 exact Array.size_modify
theorem wY {w:World} {b:Nat} {c:Array Value} {t:TypeId} {fz:Nat×Nat} (h:w.heap[b]? = some (.cells c t fz)):w.shape? b=some (t,c.size):=by simp [World.shape?,h]
theorem uF {w:World} {b o:Nat} {c:Array Value} {t:TypeId} (h:w.heap[b]? = some (.cells c t (0,0))):w.frozen? ⟨b,o,none⟩=false:=by simp [World.frozen?,h]
theorem Qv {w:World} {b o:Nat} {c:Array Value} {t:TypeId} {fz:Nat×Nat} (h:w.heap[b]? = some (.cells c t fz)):w.cell? ⟨b,o,none⟩=c[o]? := by simp [World.cell?,h]
set_option maxHeartbeats 8000000 in
set_option maxRecDepth 100000 in
theorem vB (L:zv P ρ) (i0:TypeInfo) (z:Value) (size bytes:Nat) (hi:P.info? (ρ.t 9)=some i0) (hz0:i0.zero=some z) (hz1:i0.size=size) (hz2:i0.bytes=bytes) (hzs:z.cells.size=size) (hsz:0<size)
  (z9:∀ w,(Go.sizeOf (ρ.t 9)).run P w=.ok size w) (g n cap i:Nat) (cur:Array Value) (w:World) (hg:w.heap[g]? = some (.cells cur (ρ.t 9) (0,0))) (hcs:cur.size=cap*size) (hin:i<n) (vb m vc:Nat) (vcur:Array Value) (hgv:w.heap[vb]? = some (.cells vcur (ρ.t 9) (0,0))) (hvb:vb≠g)
  (hm:0<m) (hroom:n+m<=cap) (hcm:cap<=maxLen) (hvl:m*size<=vcur.size) (h1:∀ u∈cur.toList.take (n*size),u.oneCell'=true) (h1v:∀ u∈vcur.toList.take (m*size),u.oneCell'=true) (hkB:cur.size≠0) :
  Calls P (ρ.f 22) #[.slice (some ⟨g,0,none⟩) n cap,.int .i64 i,.slice (some ⟨vb,0,none⟩) m vc] w fun e w'=>e=.returned (.slice (some ⟨g,0,none⟩) (n+m) cap) /\
   ∃ cur',w'.heap[g]? = some (.cells cur' (ρ.t 9) (0,0))/\cur'.size=cap*size/\cur'.toList.take ((n+m)*size)=cur.toList.take (i*size)++vcur.toList.take (m*size)++(cur.toList.take (n*size)).drop (i*size)/\w.grownBy w' (some g):=by
 have mixed:=L.mixed; have t3:=L.t3; have a3:=L.a3; have z3:=L.z3; have v3:=L.v3; have t4:=L.t4; have a4:=L.a4; have z4:=L.z4; have v4:=L.v4; have t24:=L.t24; have a24:=L.a24; have z24:=L.z24; have v24:=L.v24
 have u3:=run_underlying L.t3; have u4:=run_underlying L.t4; have u24:=run_underlying L.t24
 have hcm':cap<=9223372036854775807:=hcm
 have hz1':¬ ((m:Int)=0):=by omega
 have hz2':¬ ((i:Int)=(n:Int)):=by omega
 have hw1:IntKind.i64.wrap ((i:Int)+(m:Int))=(i:Int)+(m:Int):=by rw [IntKind.wrap_i64]; omega
 have hw2:IntKind.i64.wrap ((n:Int)+(m:Int))=(n:Int)+(m:Int):=by rw [IntKind.wrap_i64]; omega
 have hb1:(0:Int)<=(i:Int)+(m:Int):=by omega
 have hin':i<=n:=by omega
 have htn:((i:Int)+(m:Int)).toNat=i+m:=by omega
 have htn2:((n:Int)+(m:Int)).toNat=n+m:=by omega
 have hb2:¬ (cap=i+m):=by omega
 have hb3:(i:Int)<=(n:Int)+(m:Int):=by omega
 have hb4:¬ (cap=i):=by omega
 have hb5:¬ ((n:Int)+(m:Int)>(cap:Int)):=by omega
 have hov:∀ o lb cb,(callFunc (ρ.f 29) #[.slice (some ⟨vb,0,none⟩) m vc,.slice (some ⟨g,o,none⟩) lb cb]).run P w=.ok (.value (.bool false)) w:=fun o lb cb=>by
  rw [L.ov,Lib.run_overlaps_apart w (ρ.t 24) (ρ.t 4) (ρ.t 9) L.t24 size z9 ⟨vb,0,none⟩ ⟨g,o,none⟩ m vc lb cb hvb _ _ _ _ (wY hgv) (wY hg) hkB (uF hgv) (uF hgv)]
  rfl
 have e1:(i+m)*size=i*size+m*size:=Nat.add_mul i m size
 have e2:(n+m)*size=n*size+m*size:=Nat.add_mul n m size
 have e3:(n-i)*size=n*size-i*size:=Nat.sub_mul n i size
 have e4:i*size<=n*size:=Bd size hin'
 have e5:n*size+m*size<=cur.size:=by rw [hcs,<- e2]; exact Bd size hroom
 have lm:((cur.toList.take (n*size)).drop (i*size)).length=(n-i)*size:=by rw [List.length_drop,List.length_take,Array.length_toList,e3]; omega
 have hcp1:∀ ty dc sc,(Builtin.copy_ #[(ρ.t 24),(ρ.t 24)] ty #[.slice (some ⟨g,(i+m)*size,none⟩) (n+m-(i+m)) dc,.slice (some ⟨g,i*size,none⟩) (n+m-i) sc]).run P w.drew=.ok (goInt ((n-i:Nat):Int)) (w.drew.setRow g (cur.toList.take ((i+m)*size)++(cur.toList.take (n*size)).drop (i*size)++cur.toList.drop ((i+m)*size+((cur.toList.take (n*size)).drop (i*size)).length)).toArray):=fun ty dc sc =>
  TZ w.drew _ _ ty (ρ.t 9) g ((i+m)*size) (n+m-(i+m)) dc ⟨g,i*size,none⟩ (n+m-i) sc cur (ρ.t 9) _ (n-i) i0 L.t24 hi hg (by simp only [Nat.min_def]; split<;>omega) (by rw [lm,hz1])
   (fun j v hj=>by
    rw [Addr.add_none]
    have:w.drew.cell? ⟨g,i*size+j,none⟩=cur[i*size+j]? := Qv hg
    rw [this,<- hj,CC,BQ]
    have:i*size+j<n*size:=by
     have:=(Aj.1 hj).1
     omega
    rw [if_pos this,Array.getElem?_toList])
   (by rw [lm,e1,e3]; omega) (fun v hv=>h1 v (List.mem_of_mem_drop hv))
 obtain ⟨cur1,hcur1⟩:∃ c1,c1=(cur.toList.take ((i+m)*size)++(cur.toList.take (n*size)).drop (i*size)++cur.toList.drop ((i+m)*size+((cur.toList.take (n*size)).drop (i*size)).length)).toArray:=⟨_,rfl⟩
 rw [<- hcur1] at hcp1
 have hs1:cur1.size=cap*size:=by
  rw [hcur1,List.size_toArray]
  simp only [List.length_append,List.length_take,List.length_drop,Array.length_toList,e1]
  omega
 have hg1:(w.drew.setRow g cur1).heap[g]? = some (.cells cur1 (ρ.t 9) (0,0)):=setRow_heap w.drew g cur cur1 (ρ.t 9) _ hg
 have hgv1:(w.drew.setRow g cur1).heap[vb]? = some (.cells vcur (ρ.t 9) (0,0)):=by rw [setRow_other w.drew g vb cur1 hvb]; exact hgv
 have lv:(vcur.toList.take (m*size)).length=m*size:=by rw [List.length_take,Array.length_toList]; omega
 have hcp2:∀ (W:World),W.heap=(w.drew.setRow g cur1).heap->∀ ty dc,(Builtin.copy_ #[(ρ.t 24),(ρ.t 24)] ty #[.slice (some ⟨g,i*size,none⟩) (n+m-i) dc,.slice (some ⟨vb,0,none⟩) m vc]).run P W=.ok (goInt m) (W.setRow g (cur1.toList.take (i*size)++vcur.toList.take (m*size)++cur1.toList.drop (i*size+(vcur.toList.take (m*size)).length)).toArray):=fun W hW ty dc =>
  TZ W _ _ ty (ρ.t 9) g (i*size) (n+m-i) dc ⟨vb,0,none⟩ m vc cur1 (ρ.t 9) _ m i0 L.t24 hi (by rw [hW]; exact hg1) (by simp only [Nat.min_def]; split<;>omega) (by rw [lv,hz1])
   (fun j v hj=>by
    rw [Addr.add_none,Qv (by rw [hW]; exact hgv1),<- hj,BQ,Nat.zero_add]
    have:j<m*size:=by
     have:=(Aj.1 hj).1
     omega
    rw [if_pos this,Array.getElem?_toList])
   (by rw [lv]; omega) h1v
 clear e1 e2 e3
 obtain ⟨_,_,FG⟩:=L.f22
 go_enter FG,Body2.n22_ntmps ρ
 go_wp2_with (simp only [hov])
 go_region_law_o (refine step_copy_runI rfl _ _ (ρ.t 24) (ρ.t 24) rfl _ _ (by simp [Act.eval,Act.put]) (by simp [Act.eval,Act.put]) (hcp1 _ _ _) ?_)
 go_wp2_with (at_builtin; refine wpList_copy_runI _ rfl _ _ (ρ.t 24) (ρ.t 24) rfl _ _ rfl rfl (hcp2 _ rfl _ _) ?_)
 go_ret
 have e1:(i+m)*size=i*size+m*size:=Nat.add_mul i m size
 have e2:(n+m)*size=n*size+m*size:=Nat.add_mul n m size
 have e3:(n-i)*size=n*size-i*size:=Nat.sub_mul n i size
 have e6:cur.toList.length=cap*size:=by rw [Array.length_toList,hcs]
 have e7:vcur.toList.length=vcur.size:=Array.length_toList
 refine ⟨rfl,_,setRow_heap _ g _ _ _ _ (setRow_heap w.drew g cur _ (ρ.t 9) _ hg),?_,?_,⟨rfl,rfl,rfl,by rw [JW,JW]; exact Nat.le_refl _,fun k hk hne=>?_⟩⟩
 ·simp only [List.size_toArray,List.length_append,List.length_take,List.length_drop,e1,e3,e6,e7]
  omega
 ·have:=AA5 cur.toList (vcur.toList.take (m*size)) (i*size) (m*size) (n*size) e4 lv (by omega)
  simp only [e1,e2,e3]
  simpa only [BW] using this
 ·have hk':k≠g:=fun e=>hne (by rw [e])
  rw [setRow_other _ g k _ hk',setRow_other _ g k _ hk']
  rfl
set_option maxHeartbeats 8000000 in
set_option maxRecDepth 100000 in
theorem wZ (L:zv P ρ) (i0:TypeInfo) (z:Value) (size bytes:Nat) (hi:P.info? (ρ.t 9)=some i0) (hz0:i0.zero=some z) (hz1:i0.size=size) (hz2:i0.bytes=bytes) (hzs:z.cells.size=size) (hsz:0<size)
  (z9:∀ w,(Go.sizeOf (ρ.t 9)).run P w=.ok size w) (g n cap i:Nat) (cur:Array Value) (w:World) (hg:w.heap[g]? = some (.cells cur (ρ.t 9) (0,0))) (hcs:cur.size=cap*size) (hin:i<n) (vb m vc:Nat) (vcur:Array Value) (hgv:w.heap[vb]? = some (.cells vcur (ρ.t 9) (0,0))) (hvb:vb≠g)
  (hm:0<m) (hnc:n<=cap) (hroom:cap<n+m) (hcm:n+m<=68719476736) (hby:bytes<=2048) (hvl:m*size<=vcur.size) (h1:∀ u∈cur.toList.take (n*size),u.oneCell'=true) (h1v:∀ u∈vcur.toList.take (m*size),u.oneCell'=true) :
  Calls P (ρ.f 22) #[.slice (some ⟨g,0,none⟩) n cap,.int .i64 i,.slice (some ⟨vb,0,none⟩) m vc] w fun e w'=>∃ cap',e=.returned (.slice (some ⟨w.heap.size,0,none⟩) (n+m) cap')/\n+m<=cap'/\cap'<=maxLen /\
   ∃ cur',w'.heap[w.heap.size]? = some (.cells cur' (ρ.t 9) (0,0))/\cur'.size=cap'*size/\cur'.toList.take ((n+m)*size)=cur.toList.take (i*size)++vcur.toList.take (m*size)++(cur.toList.take (n*size)).drop (i*size)/\w.grownBy w' none:=by
 have mixed:=L.mixed; have t3:=L.t3; have a3:=L.a3; have z3:=L.z3; have v3:=L.v3; have t4:=L.t4; have a4:=L.a4; have z4:=L.z4; have v4:=L.v4; have t24:=L.t24; have a24:=L.a24; have z24:=L.z24; have v24:=L.v24
 have u3:=run_underlying L.t3; have u4:=run_underlying L.t4; have u24:=run_underlying L.t24
 have hcm':n+m<=9223372036854775807:=by omega
 have hz1':¬ ((m:Int)=0):=by omega
 have hz2':¬ ((i:Int)=(n:Int)):=by omega
 have hw1:IntKind.i64.wrap ((i:Int)+(m:Int))=(i:Int)+(m:Int):=by rw [IntKind.wrap_i64]; omega
 have hw2:IntKind.i64.wrap ((n:Int)+(m:Int))=(n:Int)+(m:Int):=by rw [IntKind.wrap_i64]; omega
 have hw3:IntKind.i64.wrap ((n:Int)+(m:Int)-(i:Int))=(n:Int)+(m:Int)-(i:Int):=by rw [IntKind.wrap_i64]; omega
 have hb1:(0:Int)<=(i:Int)+(m:Int):=by omega
 have hin':i<=n:=by omega
 have htn:((i:Int)+(m:Int)).toNat=i+m:=by omega
 have htn2:((n:Int)+(m:Int)).toNat=n+m:=by omega
 have hb4:¬ (cap=i):=by omega
 have hb5:(n:Int)+(m:Int)>(cap:Int):=by omega
 have hb6:¬ (cap=0):=by omega
 have e1:(i+m)*size=i*size+m*size:=Nat.add_mul i m size
 have e2:(n+m)*size=n*size+m*size:=Nat.add_mul n m size
 have e3:(n-i)*size=n*size-i*size:=Nat.sub_mul n i size
 have e4:i*size<=n*size:=Bd size hin'
 have e5:n*size<=cur.size:=by rw [hcs]; exact Bd size hnc
 have lo:(cur.toList.take (i*size)).length=i*size:=by rw [List.length_take,Array.length_toList]; omega
 have lv:(vcur.toList.take (m*size)).length=m*size:=by rw [List.length_take,Array.length_toList]; omega
 have lm:((cur.toList.take (n*size)).drop (i*size)).length=(n-i)*size:=by rw [List.length_drop,List.length_take,Array.length_toList,e3]; omega
 have hgl:g<w.heap.size:=(Array.getElem?_eq_some_iff.1 hg).1
 have hvl2:vb<w.heap.size:=(Array.getElem?_eq_some_iff.1 hgv).1
 have hbb:(n+m)*bytes<=140737488355328:=Nat.le_trans (Nat.mul_le_mul hcm hby) (by omega)
 obtain ⟨C,new,hap,hC1,hC2,hns,hnt⟩:∃ (C:Nat) (new:Array Value),(∀ ty,(Builtin.append_ #[(ρ.t 24),(ρ.t 3)] ty #[.slice (some ⟨g,0,none⟩) i cap,.int .i64 ((n:Int)+(m:Int)-(i:Int))]).run P w=.ok (.slice (some ⟨w.heap.size,0,none⟩) (n+m) C) (w.drew.alloc (.cells new (ρ.t 9)))) /\
   n+m<=C/\C<=maxLen/\new.size=C*size/\new.toList.take (i*size)=cur.toList.take (i*size):=by
  have hsum:i+(n+m-i)=n+m:=by omega
  have hge:=grownCap_ge w (n+m) cap (ρ.t 9)
  refine ⟨grownCap w (n+m) cap (ρ.t 9),(cur.toList.take (i*size)).toArray++Builtin.zeroCells z.cells (n+m-i)++Builtin.zeroCells z.cells (grownCap w (n+m) cap (ρ.t 9)-(n+m)),fun ty=>?_,hge,grownCap_le_maxLen _ _ _ _ (by unfold maxLen; omega),?_,?_⟩
  ·have:=kS (P:=P) w (ρ.t 24) (ρ.t 3) ty (ρ.t 9) i0 z .i64 L.t24 L.t3 hi hz0 ⟨g,0,none⟩ i cap (cur.toList.take (i*size)) (by rw [lo,hz1]) (fun j v hj=>by
     rw [Addr.add_none,Qv hg,<- hj,BQ,Nat.zero_add]
     have:j<i*size:=by
      have:=(Aj.1 hj).1
      omega
     rw [if_pos this,Array.getElem?_toList]) (n+m-i) (by omega) (by omega) (by omega) (by omega) (by rw [hz2]; exact Nat.le_trans (Bd bytes (Nat.sub_le _ _)) (by omega)) (by rw [hsum,hz2]; exact growslice_fits hroom hbb) .i64
   rw [hsum,show ((n+m-i:Nat):Int)=(n:Int)+(m:Int)-(i:Int) by omega] at this
   exact this
  ·simp only [Array.size_append,List.size_toArray,size_zeroCells,hzs,lo,<- Nat.add_mul]
   congr 1
   omega
  ·simp only [Array.toList_append,BW]
   exact (congrArg (fun k=>List.take k _) lo.symm).trans (by rw [List.take_left])
 have hW1:(w.drew.alloc (.cells new (ρ.t 9))).heap[w.heap.size]? = some (.cells new (ρ.t 9) (0,0)):=heap_alloc_new w.drew _
 have hW1o:∀ k,k<w.heap.size->(w.drew.alloc (.cells new (ρ.t 9))).heap[k]? = w.heap[k]? := fun k hk=>heap_alloc_old w.drew _ hk
 have e8:i*size+m*size<=new.size:=by rw [hns,<- e1]; exact Bd size (by omega)
 have e9:n*size+m*size<=new.size:=by rw [hns,<- e2]; exact Bd size (by omega)
 have hcp1:∀ (W:World),W.heap=(w.drew.alloc (.cells new (ρ.t 9))).heap->∀ ty dc,(Builtin.copy_ #[(ρ.t 24),(ρ.t 24)] ty #[.slice (some ⟨w.heap.size,i*size,none⟩) (n+m-i) dc,.slice (some ⟨vb,0,none⟩) m vc]).run P W=.ok (goInt m) (W.setRow w.heap.size (new.toList.take (i*size)++vcur.toList.take (m*size)++new.toList.drop (i*size+(vcur.toList.take (m*size)).length)).toArray):=fun W hW ty dc =>
  TZ W _ _ ty (ρ.t 9) w.heap.size (i*size) (n+m-i) dc ⟨vb,0,none⟩ m vc new (ρ.t 9) _ m i0 L.t24 hi (by rw [hW]; exact hW1) (by simp only [Nat.min_def]; split<;>omega) (by rw [lv,hz1])
   (fun j v hj=>by
    rw [Addr.add_none,Qv (by rw [hW,hW1o vb hvl2]; exact hgv),<- hj,BQ,Nat.zero_add]
    have:j<m*size:=by
     have:=(Aj.1 hj).1
     omega
    rw [if_pos this,Array.getElem?_toList])
   (by rw [lv]; omega) h1v
 obtain ⟨cur1,hcur1⟩:∃ c1,c1=(new.toList.take (i*size)++vcur.toList.take (m*size)++new.toList.drop (i*size+(vcur.toList.take (m*size)).length)).toArray:=⟨_,rfl⟩
 rw [<- hcur1] at hcp1
 have hln:new.toList.length=new.size:=Array.length_toList
 have hs1:cur1.size=C*size:=by
  rw [hcur1,List.size_toArray,<- hns]
  simp only [List.length_append,List.length_take,List.length_drop,hln,lv]
  omega
 have hcp2:∀ (W:World),W.heap=((w.drew.alloc (.cells new (ρ.t 9))).setRow w.heap.size cur1).heap->∀ ty dc sc,(Builtin.copy_ #[(ρ.t 24),(ρ.t 24)] ty #[.slice (some ⟨w.heap.size,(i+m)*size,none⟩) (n+m-(i+m)) dc,.slice (some ⟨g,i*size,none⟩) (n-i) sc]).run P W=.ok (goInt ((n-i:Nat):Int)) (W.setRow w.heap.size (cur1.toList.take ((i+m)*size)++(cur.toList.take (n*size)).drop (i*size)++cur1.toList.drop ((i+m)*size+((cur.toList.take (n*size)).drop (i*size)).length)).toArray):=fun W hW ty dc sc =>
  TZ W _ _ ty (ρ.t 9) w.heap.size ((i+m)*size) (n+m-(i+m)) dc ⟨g,i*size,none⟩ (n-i) sc cur1 (ρ.t 9) _ (n-i) i0 L.t24 hi (by rw [hW]; exact setRow_heap _ _ new cur1 _ _ hW1) (by simp only [Nat.min_def]; split<;>omega) (by rw [lm,hz1])
   (fun j v hj=>by
    rw [Addr.add_none,Qv (by rw [hW,setRow_other _ _ g _ (by omega),hW1o g hgl]; exact hg),<- hj,CC,BQ]
    have:i*size+j<n*size:=by
     have:=(Aj.1 hj).1
     omega
    rw [if_pos this,Array.getElem?_toList])
   (by rw [lm,hs1,<- hns,e1,e3]; omega) (fun v hv=>h1 v (List.mem_of_mem_drop hv))
 have fin:(cur1.toList.take ((i+m)*size)++(cur.toList.take (n*size)).drop (i*size)++cur1.toList.drop ((i+m)*size+((cur.toList.take (n*size)).drop (i*size)).length)).take ((n+m)*size)=cur.toList.take (i*size)++vcur.toList.take (m*size)++(cur.toList.take (n*size)).drop (i*size):=by
  have l1:(new.toList.take (i*size)).length=i*size:=by rw [List.length_take,hln]; omega
  have t1:cur1.toList.take ((i+m)*size)=cur.toList.take (i*size)++vcur.toList.take (m*size):=by
   rw [hcur1,<- hnt,e1]
   have l2:(new.toList.take (i*size)++vcur.toList.take (m*size)).length=i*size+m*size:=by rw [List.length_append,l1,lv]
   exact (congrArg (fun k=>List.take k _) l2.symm).trans (by rw [List.take_left])
  rw [t1]
  have l3:(cur.toList.take (i*size)++vcur.toList.take (m*size)++(cur.toList.take (n*size)).drop (i*size)).length=(n+m)*size:=by
   simp only [List.length_append,lo,lv,lm,e2,e3]
   omega
  exact (congrArg (fun k=>List.take k _) l3.symm).trans (by rw [List.take_left])
 obtain ⟨cur2,hcur2⟩:∃ c2,c2=(cur1.toList.take ((i+m)*size)++(cur.toList.take (n*size)).drop (i*size)++cur1.toList.drop ((i+m)*size+((cur.toList.take (n*size)).drop (i*size)).length)).toArray:=⟨_,rfl⟩
 rw [<- hcur2] at hcp2
 have hs2:cur2.size=C*size:=by
  rw [hcur2,List.size_toArray,<- hs1]
  simp only [List.length_append,List.length_take,List.length_drop,Array.length_toList,lm,e1,e3]
  omega
 have fin2:cur2.toList.take ((n+m)*size)=cur.toList.take (i*size)++vcur.toList.take (m*size)++(cur.toList.take (n*size)).drop (i*size):=by rw [hcur2]; exact fin
 clear e1 e2 e3 hcur1 hcur2 fin
 obtain ⟨W1,hW1d⟩:∃ W1,W1=w.drew.alloc (.cells new (ρ.t 9)):=⟨_,rfl⟩
 have hWs:W1.heap.size=w.heap.size+1:=by rw [hW1d]; exact Array.size_push _
 have hWos:W1.os=w.os/\W1.tape=w.tape/\W1.output=w.output:=by rw [hW1d]; exact ⟨rfl,rfl,rfl⟩
 rw [<- hW1d] at hW1 hW1o hcp1 hcp2 hap
 clear hW1d
 have hcp3:=hcp2 (W1.setRow w.heap.size cur1).drew rfl
 clear hcp2
 have hb7:¬ (C=i+m):=by omega
 have hb8:¬ (C=i):=by omega
 obtain ⟨_,_,FG⟩:=L.f22
 go_enter FG,Body2.n22_ntmps ρ
 go_wp2_with (at_builtin; refine Lib.wpList_append_run _ rfl _ _ (ρ.t 24) (ρ.t 3) rfl _ _ rfl rfl _ _ (hap _) ?_)
 go_region_law_o (refine step_copy_runI rfl _ _ (ρ.t 24) (ρ.t 24) rfl _ _ (by simp [Act.eval,Act.put]) (by simp [Act.eval,Act.put]) (hcp3 _ _ _) ?_)
 go_wp2
 go_ret
 refine ⟨C,rfl,hC1,hC2,cur2,setRow_heap _ _ cur1 cur2 _ _ (setRow_heap _ _ new cur1 _ _ hW1),hs2,fin2,⟨hWos.1,hWos.2.1,hWos.2.2,?_,fun k hk _=>?_⟩⟩
 ·rw [JW]
  show w.heap.size<=(W1.setRow w.heap.size cur1).heap.size
  rw [JW,hWs]
  omega
 ·rw [setRow_other _ _ k _ (by omega)]
  show (W1.setRow w.heap.size cur1).heap[k]? = _
  rw [setRow_other _ _ k _ (by omega),hW1o k hk]
theorem m8 {H:HP} {K:Kd} {xs:List K.T} {f:List Value} (h:DS H K xs f) (i:Nat):DS H K (xs.take i) (f.take (i*K.sz)):=by
 intro j x hx
 rw [BQ] at hx
 split at hx
 ·rename_i hj
  have:=h j x hx
  have hle:(j+1)*K.sz<=i*K.sz:=Bd _ hj
  rw [Nat.succ_mul] at hle
  rw [List.drop_take,List.take_take,Nat.min_eq_left (by omega)]
  exact this
 ·cases hx
theorem m9 {H:HP} {K:Kd} {xs:List K.T} {f:List Value} (h:DS H K xs f) (i:Nat):DS H K (xs.drop i) (f.drop (i*K.sz)):=by
 intro j x hx
 rw [CC] at hx
 have:=h _ x hx
 rw [List.drop_drop,<- Nat.add_mul]
 exact this
theorem vC {H:HP} {φ:Bz} {w w':World} {t:TypeId} {K:Kd} {xs vs ys:List K.T} {n:Int} {v':Value} {flat:List Value}
  (hs:SR H φ (Bi [] [.new t K xs,.int .i64 n,.new t K vs]) w) (hg:w.grownBy w' (GB (φ 0))) (hb:∀ b,CA v' b->CA (φ 0) b\/w.heap.size<=b)
  (ho:w'.ownsRow 0 t K.sz v' ys.length flat) (hr:DS H K ys flat):OT H φ w [.new t K xs,.int .i64 n,.new t K vs] [] [] [.new t K ys] v' w':=by
 have hout:∀ b,CA (φ 0) b->H b=none:=fun b h=>hs.out 0 (.rows t K xs) rfl rfl b h
 have hlt:∀ b o,H b=some o->b<w.heap.size:=fun b o h=>(Array.getElem?_eq_some_iff.1 (hs.hp b o h)).1
 refine ⟨H,fun _=>v',HP.le_refl H,⟨fun b o h=>?_,fun id bx hid=>?_,fun i j bi bj hi hj _ _ hne=>?_,fun i bi hi _ b hv=>?_,fun id cs hid=>?_,hs.tb⟩,⟨hg.os,hg.tape,hg.output,hg.size,fun b hlt hne=>hg.block b hlt (fun e=>hne 0 (by show 0<2; omega) (.of e.symm)),fun j hj=>by simp at hj,fun i bi hi _ b hv=>?_,fun j hj=>by simp at hj,fun _ _ _=>rfl⟩,⟨(Q9 ho).symm,rfl⟩⟩
 ·rw [hg.block b (hlt b o h) (fun e=>by rw [hout b (.of e.symm)] at h; cases h)]
  exact hs.hp b o h
 ·cases id with
  | zero=>cases hid; exact BC.of_flat ho hr
  | succ k=>cases hid
 ·cases i with
  | succ k=>cases hi
  | zero =>
   cases j with
   | succ k=>cases hj
   | zero=>exact absurd rfl hne
 ·cases hh:H b with
  | none=>rfl
  | some o =>
   rcases hb b hv with h | h
   ·rw [hout b h] at hh; cases hh
   ·have:=hlt b o hh; omega
 ·cases id with
  | zero=>cases hid
  | succ k=>cases hid
 ·rcases hb b hv with h | h
  ·exact .inr ⟨0,(by show 0<2; omega),h⟩
  ·exact .inl h
theorem zw {K:Kd} (L:zv P ρ) (he:tu P (ρ.t 9) K=true) (hp:K.plain=true) {xs vs:List K.T} {i:Nat} (hx:xs.length+vs.length<=68719476736) (hv:vs≠[]) (hi:i<=xs.length) :
  Wh P (ρ.f 22) [.new (ρ.t 9) K xs,.int .i64 i,.new (ρ.t 9) K vs] [] [.new (ρ.t 9) K (xs.take i++vs++xs.drop i)]:=by
 obtain ⟨i0,z,hi0,hz,h1,h2,h3,h4⟩:=Uj he
 have hm:0<vs.length:=List.length_pos_iff.2 hv
 have hsz:=Kd.sz_pos K
 refine ⟨?_,?_,1,rfl,fun H φ w cargs hs ha=>?_⟩
 ·obtain ⟨nm,hnm,hf⟩:=L.f22
  exact ⟨_,_,hf,hnm,rfl⟩
 ·intro r hr
  simp only [C1] at hr
  subst hr
  rfl
 ·obtain ⟨v0,r0,rfl,hv0,ha⟩:=ha
  obtain ⟨v1,r1,rfl,hv1,ha⟩:=ha
  obtain ⟨v2,r2,rfl,hv2,ha⟩:=ha
  have hr2:r2=[]:=ha
  subst hr2
  obtain ⟨flat,ho,hr⟩:=BC.flat (Kd.plain_ok hp) (hs.box 0 (.rows (ρ.t 9) K xs) rfl)
  obtain ⟨flatv,hov,hrv⟩:=BC.flat (Kd.plain_ok hp) (hs.box 1 (.rows (ρ.t 9) K vs) rfl)
  have e0:v0=φ 0:=hv0.1.trans (Q9 ho)
  have e1:v1=.int .i64 i:=hv1
  have e2:v2=φ 1:=hv2.1.trans (Q9 hov)
  subst e0 e1 e2
  have hnew:(xs.take i++vs++xs.drop i).length=xs.length+vs.length:=by simp only [List.length_append,List.length_take,List.length_drop]; omega
  have hnil:vs.length≠0:=by omega
  obtain ⟨gv,capv,curv,ev,_,hgv,hcv,hcmv,hsv,htv⟩:=hov.2.resolve_left (fun h=>hnil h.2)
  have hlv:vs.length*K.sz<=curv.size:=by rw [hsv]; exact Bd _ hcv
  have hn:xs.length+vs.length<=maxLen:=by unfold maxLen; omega
  have hbb:(xs.length+vs.length)*i0.bytes<=140737488355328:=Nat.le_trans (Nat.mul_le_mul hx h2) (by omega)
  have hcv2:∀ j u,flatv[j]? = some u->w.cell? ((⟨gv,0,none⟩:Addr).add j)=some u:=fun j u hj=>by
   rw [Addr.add_none,Qv hgv,Nat.zero_add]
   rw [<- htv,BQ] at hj
   split at hj
   ·rwa [Array.getElem?_toList] at hj
   ·cases hj
  have one:(w.ownsRow 0 (ρ.t 9) K.sz (φ 1) vs.length flatv):=hov
  rw [ev]
  by_cases hin:i=xs.length
  ·subst hin
   obtain ⟨base,n,cap,e0,hnn⟩:∃ base n cap,φ 0=.slice base n cap/\n=xs.length:=by
    rcases ho.2 with ⟨e,h⟩ | ⟨g,cap,cur,e,_⟩
    ·exact ⟨none,0,0,e,h.symm⟩
    ·exact ⟨_,_,_,e,rfl⟩
   subst hnn
   refine Calls.mono (xx L i0 z K.sz i0.bytes hi0 hz h1 rfl h3 hsz (fun w=>by simp [sizeOf,typeInfo,hi0,h1]) (φ 0) base _ cap e0 flat w ho ⟨gv,0,none⟩ vs.length capv flatv hm hov.1 hn hbb hcv2 (EI hrv hov.1)) fun out w' h=>?_
   obtain ⟨v',rfl,ho',hg,hbk⟩:=h
   have hbv:∀ {v:Value} {n:Nat} {fl:List Value} {ww:World},ww.ownsRow 0 (ρ.t 9) K.sz v n fl->GB v=v.ownBlock:=fun h=>by
    rcases h.2 with ⟨e,_⟩ | ⟨g,c,cu,e,_⟩<;>rw [e]<;>rfl
   have hbl:GB (φ 0)=(φ 0).ownBlock:=by rw [e0]; cases base<;>rfl
   refine vC (flat:=flat++flatv) hs (by rw [hbl]; exact hg) (fun b hb=>?_) (by rw [hnew]; exact ho') ?_
   ·replace hb:=CA.flat (by rcases ho'.2 with ⟨e,_⟩ | ⟨g,c,cu,e,_⟩<;>simp [e]) hb
    rw [hbv ho'] at hb
    rcases hbk with h | h
    ·exact .inl (.of (by rw [hbl,<- h]; exact hb))
    ·rw [h] at hb
     cases hb
     exact .inr (Nat.le_refl _)
   ·rw [List.take_length,List.drop_length,List.append_nil]
    exact IF hr ho.1 hrv
  ·have hlt:i<xs.length:=by omega
   obtain ⟨g,cap,cur,e0,_,hg,hc,hcm,hsc,ht⟩:=ho.2.resolve_left (fun h=>by omega)
   have hne:gv≠g:=fun e=>hs.sep 0 1 _ _ rfl rfl rfl rfl (by decide) g (by rw [e0]; rfl) (by rw [ev,e]; rfl)
   rw [e0]
   have z9:∀ w,(Go.sizeOf (ρ.t 9)).run P w=.ok K.sz w:=fun w=>by simp [sizeOf,typeInfo,hi0,h1]
   have hcap0:cur.size≠0:=by
    have:=Bd K.sz hc
    have h5:0<xs.length*K.sz:=Nat.mul_pos (by omega) hsz
    omega
   have htk:cur.toList.take (i*K.sz)=flat.take (i*K.sz):=by
    rw [<- ht,List.take_take,Nat.min_eq_left (Bd _ hi)]
   have hrow:∀ (cur':Array Value),cur'.toList.take ((xs.length+vs.length)*K.sz)=cur.toList.take (i*K.sz)++curv.toList.take (vs.length*K.sz)++(cur.toList.take (xs.length*K.sz)).drop (i*K.sz)->cur'.toList.take ((xs.length+vs.length)*K.sz)=flat.take (i*K.sz)++flatv++flat.drop (i*K.sz):=fun cur' h=>by rw [h,htk,htv,ht]
   have hlf:(flat.take (i*K.sz)++flatv++flat.drop (i*K.sz)).length=(xs.length+vs.length)*K.sz:=by
    have h5:=ho.1
    have h6:=hov.1
    have h7:i*K.sz<=xs.length*K.sz:=Bd _ hi
    simp only [List.length_append,List.length_take,List.length_drop,h5,h6,Nat.add_mul]
    omega
   have hrr:DS H K (xs.take i++vs++xs.drop i) (flat.take (i*K.sz)++flatv++flat.drop (i*K.sz)):=by
    have h5:=ho.1
    have h7:i*K.sz<=xs.length*K.sz:=Bd _ hi
    have l1:(flat.take (i*K.sz)).length=(xs.take i).length*K.sz:=by rw [List.length_take,List.length_take,Nat.min_eq_left hi,h5]; omega
    refine IF (IF (m8 hr i) l1 hrv) ?_ (m9 hr i)
    rw [List.length_append,List.length_append,l1,hov.1,Nat.add_mul]
   by_cases hroom:xs.length+vs.length<=cap
   ·refine Calls.mono (vB L i0 z K.sz i0.bytes hi0 hz h1 rfl h3 hsz z9 g xs.length cap i cur w hg hsc hlt gv vs.length capv curv hgv hne hm hroom hcm hlv (by rw [ht]; exact EI hr ho.1) (by rw [htv]; exact EI hrv hov.1) hcap0) fun out w' h=>?_
    obtain ⟨rfl,cur',g1,g2,g3,g4⟩:=h
    refine vC hs (by rw [e0]; exact g4) (fun b hb=>.inl (by rw [e0]; exact hb)) (flat:=flat.take (i*K.sz)++flatv++flat.drop (i*K.sz)) ?_ hrr
    rw [hnew]
    exact ⟨hlf,.inr ⟨g,cap,cur',rfl,Nat.zero_le _,g1,hroom,hcm,g2,hrow cur' g3⟩⟩
   ·refine Calls.mono (wZ L i0 z K.sz i0.bytes hi0 hz h1 rfl h3 hsz z9 g xs.length cap i cur w hg hsc hlt gv vs.length capv curv hgv hne hm hc (by omega) hx h2 hlv (by rw [ht]; exact EI hr ho.1) (by rw [htv]; exact EI hrv hov.1)) fun out w' h=>?_
    obtain ⟨cap',rfl,g5,g6,cur',g1,g2,g3,g4⟩:=h
    refine vC hs ⟨g4.os,g4.tape,g4.output,g4.size,fun k hk _=>g4.block k hk (by simp)⟩ (fun b hb=>.inr (by cases hb; exact Nat.le_refl _)) (flat:=flat.take (i*K.sz)++flatv++flat.drop (i*K.sz)) ?_ hrr
    rw [hnew]
    exact ⟨hlf,.inr ⟨w.heap.size,cap',cur',rfl,Nat.zero_le _,g1,g5,g6,g2,hrow cur' g3⟩⟩
def rD (t:TypeId) (K:Kd) (args bs:List AV):Option (List AV) :=
 match args,bs with
 | [.lst K' xs],[]=>if h:K'=K then (if xs.length<=68719476736 then some [.new t K (h▸xs)] else none) else none
 | _,_=>none
theorem rE {t:TypeId} {K:Kd} {xs:List K.T} (h:xs.length<=68719476736):rD t K [.lst K xs] []=some [.new t K xs]:=by simp [rD,h]
theorem rF {K:Kd} (L:SlLaysE0.n41 P ρ) (he:tu P (ρ.t 23) K=true) {args bs rs:List AV} (h:rD (ρ.t 23) K args bs=some rs):Wh P (ρ.f 41) args bs rs:=by
 unfold rD at h
 split at h
 ·split at h
  ·rename_i hk
   subst hk
   split at h
   ·cases h
    exact AA4 L he (by assumption)
   ·cases h
  ·cases h
 ·cases h
def AA6 (t:TypeId) (K:Kd) (args bs:List AV):Option (List AV) :=
 match args,bs with
 | [.new t1 K1 xs,.int k i,.new t2 K2 vs],[]=>if h1:K1=K then (if h2:K2=K then (if t1=t/\t2=t/\k=.i64/\0<=i/\i<=xs.length/\vs.length≠0/\xs.length+vs.length<=68719476736 then
   some [.new t K ((h1▸xs).take i.toNat++(h2▸vs)++(h1▸xs).drop i.toNat)] else none) else none) else none
 | _,_=>none
theorem ACE {t:TypeId} {K:Kd} {xs vs:List K.T} {i:Nat} (h:xs.length+vs.length<=68719476736) (hi:i<=xs.length) (hv:vs.length≠0):AA6 t K [.new t K xs,.int .i64 i,.new t K vs] []=some [.new t K (xs.take i++vs++xs.drop i)]:=by
 have hi':(i:Int)<=(xs.length:Int):=by omega
 have h0:(0:Int)<=(i:Int):=by omega
 simp only [AA6,dif_pos,true_and]
 rw [if_pos ⟨h0,hi',hv,h⟩,Al]
theorem ACF {K:Kd} (L:zv P ρ) (he:tu P (ρ.t 9) K=true) (hp:K.plain=true) {args bs rs:List AV} (h:AA6 (ρ.t 9) K args bs=some rs):Wh P (ρ.f 22) args bs rs:=by
 unfold AA6 at h
 split at h
 ·split at h
  ·rename_i hk
   subst hk
   split at h
   ·rename_i hk2
    subst hk2
    split at h
    ·rename_i hc
     obtain ⟨rfl,rfl,rfl,h0,hi,hv,hx⟩:=hc
     cases h
     rename_i n _
     obtain ⟨m,rfl⟩:=Int.eq_ofNat_of_zero_le h0
     exact zw L he hp hx (fun e=>hv (by rw [e]; rfl)) (by omega)
    ·cases h
   ·cases h
  ·cases h
 ·cases h
def ADB (args bs:List AV):Option (List AV) :=
 match args,bs with
 | [.str a,.str b],[]=>some [.int .i64 (Lib.compareBytes a.data.toList b.data.toList)]
 | _,_=>none
theorem ACG (L:Lays.n106 P ρ) {args bs rs:List AV} (h:ADB args bs=some rs):Wh P (ρ.f 106) args bs rs:=by
 unfold ADB at h
 split at h
 ·cases h
  rename_i a b
  refine ⟨⟨_,_,L.f106,by rfl,rfl⟩,?_,1,rfl,fun H φ w cargs hs ha=>?_⟩
  ·intro r hr
   simp only [C1] at hr
   subst hr
   rfl
  ·obtain ⟨v0,r0,rfl,hv0,ha⟩:=ha
   obtain ⟨v1,r1,rfl,hv1,ha⟩:=ha
   have hr1:r1=[]:=ha
   subst hr1
   have e0:v0=.string a:=hv0
   have e1:v1=.string b:=hv1
   subst e0 e1
   refine Calls.mono (Any.strings_Compare L a b w) fun out w' h=>?_
   obtain ⟨rfl,rfl⟩:=h
   exact wX (rs:=[.int .i64 (Lib.compareBytes a.data.toList b.data.toList)]) (Af.refl hs) rfl
 ·cases h
theorem pX {H:HP} {φ:Bz} {w w':World} {t:TypeId} {K:Kd} {xs ys:List K.T} {ags:List AV} {v':Value} {flat:List Value} (hst:Bi [] (.new t K xs::ags)=[.rows t K xs])
  (hs:SR H φ (Bi [] (.new t K xs::ags)) w) (hg:w.grownBy w' (GB (φ 0))) (hb:∀ b,CA v' b->CA (φ 0) b\/w.heap.size<=b)
  (ho:w'.ownsRow 0 t K.sz v' ys.length flat) (hr:DS H K ys flat):OT H φ w (.new t K xs::ags) [] [] [.new t K ys] v' w':=by
 have hbx:(Bi [] (.new t K xs::ags))[0]? = some (.rows t K xs):=by rw [hst]; rfl
 have hout:∀ b,CA (φ 0) b->H b=none:=fun b h=>hs.out 0 (.rows t K xs) hbx rfl b h
 have hlt:∀ b o,H b=some o->b<w.heap.size:=fun b o h=>(Array.getElem?_eq_some_iff.1 (hs.hp b o h)).1
 refine ⟨H,fun _=>v',HP.le_refl H,⟨fun b o h=>?_,fun id bx hid=>?_,fun i j bi bj hi hj _ _ hne=>?_,fun i bi hi _ b hv=>?_,fun id cs hid=>?_,hs.tb⟩,⟨hg.os,hg.tape,hg.output,hg.size,fun b hlt hne=>hg.block b hlt (fun e=>hne 0 (by rw [hst]; show 0<1; omega) (.of e.symm)),fun j hj=>by simp at hj,fun i bi hi _ b hv=>?_,fun j hj=>by simp at hj,fun _ _ _=>rfl⟩,⟨(Q9 ho).symm,rfl⟩⟩
 ·rw [hg.block b (hlt b o h) (fun e=>by rw [hout b (.of e.symm)] at h; cases h)]
  exact hs.hp b o h
 ·cases id with
  | zero=>cases hid; exact BC.of_flat ho hr
  | succ k=>cases hid
 ·cases i with
  | succ k=>cases hi
  | zero =>
   cases j with
   | succ k=>cases hj
   | zero=>exact absurd rfl hne
 ·cases hh:H b with
  | none=>rfl
  | some o =>
   rcases hb b hv with h | h
   ·rw [hout b h] at hh; cases hh
   ·have:=hlt b o hh; omega
 ·cases id with
  | zero=>cases hid
  | succ k=>cases hid
 ·rcases hb b hv with h | h
  ·exact .inr ⟨0,(by rw [hst]; show 0<1; omega),h⟩
  ·exact .inl h

structure ADC (P:Program) (g:Nat):Prop where
 eg:∀ args w,(callFunc g args).run P w=.ok (.enter g args) w
 says:∀ (n x:Int) (b o:Nat) (W:World),W.cell? ⟨b,o,none⟩=some (.int .i64 n) ->
  Calls P g #[.int .i64 x,.pointer (some ⟨b,o,none⟩)] W fun e w'=>e=.returned (.bool (x==n))/\∃ q,w'=W.drewN q
set_option maxHeartbeats 2000000 in
theorem wa (L:SlLaysH.n10 P ρ) (fv:Value) (w:World) :
  Calls P (ρ.f 10) #[.slice none 0 0,fv] w fun e w'=>e=.returned (.slice none 0 0)/\w'=w:=by
 have mixed:=L.mixed; have t0:=L.t0; have a0:=L.a0; have z0:=L.z0; have v0:=L.v0; have t3:=L.t3; have a3:=L.a3; have z3:=L.z3; have v3:=L.v3; have t4:=L.t4; have a4:=L.a4; have z4:=L.z4; have v4:=L.v4; have t22:=L.t22; have a22:=L.a22; have z22:=L.z22; have v22:=L.v22; have a23:=L.a23; have z23:=L.z23; have t25:=L.t25; have a25:=L.a25; have z25:=L.z25; have v25:=L.v25
 have e6:∀ args w,(callFunc (ρ.f 6) args).run P w=.ok (.enter (ρ.f 6) args) w:=L.f6.enters rfl
 have hIF:=AnyE.slices_IndexFunc_empty (P:=P) (ρ:=ρ) { L with } none 0 fv w
 obtain ⟨_,_,FG⟩:=L.f10
 go_enter FG,SlBodyH.n10_ntmps ρ
 go_wp2_with (go_at_fn (ρ.f 6); refine hIF.mono ?_; rintro e w' ⟨rfl,rfl⟩)
 go_ret
 exact ⟨rfl,rfl⟩
theorem gN {α:Type} [Inhabited α] (enc:α->Value) (w:World) (b off:Nat) (d:Array α):(Sort.putRow enc w b off d).heap.size=w.heap.size:=by
 simp [Sort.putRow,Sort.mapBlock]
theorem gO {α:Type} [Inhabited α] (enc:α->Value) (w:World) (b off k:Nat) (d:Array α) (h:k≠b):(Sort.putRow enc w b off d).heap[k]? = w.heap[k]? := by
 simp only [Sort.putRow,Sort.mapBlock,Array.getElem?_modify]
 rw [if_neg (fun e=>h e.symm)]
theorem kT {α:Type} [Inhabited α] (enc:α->Value) (w:World) (b off:Nat) (d:Array α) {c:Array Value} {e:TypeId} {fr:Nat×Nat} (h:w.heap[b]? = some (.cells c e fr)) :
  (Sort.putRow enc w b off d).heap[b]? = some (.cells (Sort.putCells enc off d c) e fr):=by
 simp only [Sort.putRow,Sort.mapBlock,Array.getElem?_modify,if_true,h,Option.map_some,Sort.onCells]
theorem xy (L:SlLaysH.n10 P ρ) (hv:∀ w,(zeroValue (ρ.t 23)).run P w=.ok (.int .i64 0) w) {g:Nat} (E:ADC P g) {xs:List Int} {n:Int} :
  Wh P (ρ.f 10) [.new (ρ.t 23) (.int .i64) xs,.clo g (.int .i64) n] [] [.new (ρ.t 23) (.int .i64) (xs.filter fun x=>!(x==n))]:=by
 refine ⟨?_,?_,1,rfl,fun H φ w cargs hs ha=>?_⟩
 ·obtain ⟨nm,hnm,hf⟩:=L.f10
  exact ⟨_,_,hf,hnm,rfl⟩
 ·intro r hr
  simp only [C1] at hr
  subst hr
  rfl
 ·obtain ⟨v0,r0,rfl,hv0,ha⟩:=ha
  obtain ⟨v1,r1,rfl,hv1,ha⟩:=ha
  have hr1:r1=[]:=ha
  subst hr1
  obtain ⟨flat,ho,hr⟩:=BC.flat rfl (hs.box 0 (.rows (ρ.t 23) (.int .i64) xs) rfl)
  have e0:v0=φ 0:=hv0.1.trans (Q9 ho)
  subst e0
  obtain ⟨b,o,c,el,fz,e1,hb,vs,hvs,hvc⟩:=(show vg H g (Fb H (.int .i64) n) v1 from hv1)
  have hvs:vs=[.int .i64 n]:=hvs
  subst hvs e1
  have hcn:c[o]? = some (.int .i64 n):=hvc 0 _ rfl
  have hwb:=hs.hp _ _ hb
  have hbl:b<w.heap.size:=(Array.getElem?_eq_some_iff.1 hwb).1
  have hcell:w.cell? ⟨b,o,none⟩=some (.int .i64 n):=by rw [Qv hwb]; exact hcn
  have hstk:Bi [] [AV.new (ρ.t 23) (.int .i64) xs,.clo g (.int .i64) n]=[.rows (ρ.t 23) (.int .i64) xs]:=rfl
  have hout:∀ bb,CA (φ 0) bb->H bb=none:=fun bb h=>hs.out 0 (.rows (ρ.t 23) (.int .i64) xs) rfl rfl bb h
  obtain ⟨hfl,⟨e0,hx⟩ | ⟨gb,cap,cur,e0,hle,hg,hc,hcm,hsc,ht⟩⟩:=ho
  ·have:xs=[]:=C2.1 (by omega)
   subst this
   rw [e0]
   refine Calls.mono (wa L _ w) fun out w' h=>?_
   obtain ⟨rfl,rfl⟩:=h
   exact pX hstk hs ⟨rfl,rfl,rfl,Nat.le_refl _,fun _ _ _=>rfl⟩ (fun b hb=>by simp [CA] at hb) (flat:=[]) ⟨by simp,.inl ⟨rfl,rfl⟩⟩ (fun j x h=>by simp at h)
  ·have hne:b≠gb:=fun e=>by
    have:=hout gb (by rw [e0]; rfl)
    rw [<- e] at this
    rw [this] at hb; cases hb
   have hgl:gb<w.heap.size:=(Array.getElem?_eq_some_iff.1 hg).1
   have hflat:∀ j (h:j<xs.length),cur[j]? = some (.int .i64 xs[j]):=fun j hj=>by
    have h1:(flat.drop (j*1)).take 1=[.int .i64 xs[j]]:=hr j xs[j] (List.getElem?_eq_getElem hj)
    have h4:((flat.drop (j*1)).take 1)[0]? = some (.int .i64 xs[j]):=by rw [h1]; rfl
    have h5:flat[j]? = some (.int .i64 xs[j]):=by simpa using h4
    rw [<- ht] at h5
    have h6:j<xs.length*Kd.sz (.int .i64):=by simpa [Kd.sz] using hj
    rw [BQ,if_pos h6,Array.getElem?_toList] at h5
    exact h5
   have hH:Sort.Holds (Value.int .i64) w gb 0 xs.toArray:=fun j hj=>by
    have hj':j<xs.length:=by simpa using hj
    have hx:xs.toArray[j]! = xs[j]:=by simp [hj']
    refine ⟨?_,?_⟩
    ·rw [Qv hg,Nat.zero_add,hflat j hj',hx]
    ·simp [World.frozen?,hg]
   have hp:PredAt P g #[.pointer (some ⟨b,o,none⟩)] (Value.int .i64) (fun x=>x==n) w:=fun W x hB=>E.says n x b o W ((hB.cell (p:=⟨b,o,none⟩) hbl).trans hcell)
   have hpo:PredOver P g #[.pointer (some ⟨b,o,none⟩)] (Value.int .i64) (fun x=>x==n) gb 0 xs.toArray.size w:=fun k os dk x _=>E.says n x b o _ (by
    unfold sortWorld
    rw [Sort.cell?_grow _ _ _ (by show b<(Sort.putRow _ _ _ _ _).heap.size; rw [gN]; exact hbl),Sort.cell?_putRow_other _ _ gb 0 _ _ (Or.inl hne)]
    exact hcell)
   have hcm':cap<=9223372036854775807:=hcm
   have hcall:=AnyE.slices_DeleteFunc L (Value.int .i64) (fun _=>rfl) (fun x=>x==n) g #[.pointer (some ⟨b,o,none⟩)] E.eg 0 hv gb 0 cap xs.toArray w hp hpo hH (by simp; omega) (by simpa using hc)
   rw [e0]
   refine Calls.mono (by simpa using hcall) fun out w' h=>?_
   obtain ⟨rfl,q,rfl⟩:=h
   have hfl':(xs.filter fun x=>!(x==n)).length<=xs.length:=List.length_filter_le _ _
   generalize hys:(xs.filter fun x=>!(x==n))=ys at hfl' ⊢
   have hd:(ys++List.replicate (xs.length-ys.length) 0).length=xs.length:=by simp; omega
   generalize hdd:(ys++List.replicate (xs.length-ys.length) (0:Int))=zs at hd ⊢
   refine pX (flat:=ys.map (Value.int .i64)) hstk hs ⟨rfl,rfl,rfl,?_,fun k hk hne2=>?_⟩ (fun b hb=>.inl (by rw [e0]; exact hb)) ?_ ?_
   ·rw [gN]; exact Nat.le_refl _
   ·rw [gO _ _ _ _ _ _ (fun e=>hne2 (by rw [e0,e]; rfl))]; rfl
   ·refine ⟨by simp [Kd.sz],.inr ⟨gb,cap,_,rfl,Nat.zero_le _,kT _ _ _ _ _ (show (Sort.ahead w q).heap[gb]? = _ from hg),by omega,hcm,by simpa [Sort.putCells] using hsc,?_⟩⟩
    apply List.ext_getElem?
    intro j
    have hcs:cur.size=cap:=by simpa [Kd.sz] using hsc
    rw [BQ]
    by_cases hj:j<ys.length
    ·have h6:j<ys.length*Kd.sz (.int .i64):=by simpa [Kd.sz] using hj
     have hj2:j<cur.size:=by omega
     rw [if_pos h6,Array.getElem?_toList,Sort.putCells,Array.getElem?_mapIdx,Array.getElem?_eq_getElem hj2]
     have h7:zs.toArray[j-0]! = ys[j]:=by
      subst hdd
      simp [Au hj,hj]
     simp only [Option.map_some,CE,List.getElem?_eq_getElem hj]
     rw [if_pos ⟨Nat.zero_le _,by simp; omega⟩,h7]
    ·have h6:¬ j<ys.length*Kd.sz (.int .i64):=by simpa [Kd.sz] using hj
     rw [if_neg h6,CE,DR (by omega)]; rfl
   ·intro j x hx
    show ((ys.map (Value.int .i64)).drop (j*1)).take 1=[.int .i64 x]
    have hj:=(Aj.1 hx).1
    have hxj:=(Aj.1 hx).2
    rw [Nat.mul_one,List.drop_eq_getElem_cons (by simpa using hj)]
    simp [hxj]
def wg (t g:Nat) (args bs:List AV):Option (List AV) :=
 match args,bs with
 | [.new t1 (.int k) xs,.clo g1 (.int k1) n],[]=>if t1=t/\g1=g/\k=.i64/\k1=.i64 then
   some [.new t (.int .i64) ((show List Int from xs).filter fun x=>!(x==(show Int from n)))] else none
 | _,_=>none
theorem AA7 {t g:Nat} {xs:List Int} {n:Int}:wg t g [.new t (.int .i64) xs,.clo g (.int .i64) n] []=some [.new t (.int .i64) (xs.filter fun x=>!(x==n))]:=by
 simp [wg]
theorem AA8 (L:SlLaysH.n10 P ρ) (hv:∀ w,(zeroValue (ρ.t 23)).run P w=.ok (.int .i64 0) w) {g:Nat} (E:ADC P g) {args bs rs:List AV} (h:wg (ρ.t 23) g args bs=some rs):Wh P (ρ.f 10) args bs rs:=by
 unfold wg at h
 split at h
 ·split at h
  ·rename_i hc
   obtain ⟨rfl,rfl,rfl,rfl⟩:=hc
   cases h
   exact xy L hv E
  ·cases h
 ·cases h

theorem vD (w:World) (t e ty:TypeId) (z:Value) (ht:P.underlying t=some (.slice e)) (hz:∀ w,(zeroValue e).run P w=.ok z w) (g o n c:Nat) (cur:Array Value) (te:TypeId) (hg:w.heap[g]? = some (.cells cur te (0,0))) (hn:0<n)
  (hfit:o+n*z.cells.size<=cur.size) (h1:∀ v∈(Builtin.zeroCells z.cells n).toList,v.oneCell'=true) :
  (Builtin.clear_ #[t] ty #[.slice (some ⟨g,o,none⟩) n c]).run P w=.ok (.tuple #[]) (w.setRow g (cur.toList.take o++(Builtin.zeroCells z.cells n).toList++cur.toList.drop (o+(Builtin.zeroCells z.cells n).toList.length)).toArray):=by
 have hl:(Builtin.zeroCells z.cells n).toList.length=n*z.cells.size:=by rw [Array.length_toList,size_zeroCells]
 have hst:=run_storeCells_at P g o te (Builtin.zeroCells z.cells n).toList 0 cur w hg (by rw [hl]; simpa using hfit) h1
 cases n with
 | zero=>omega
 | succ n=>simp [Builtin.clear_,run_underlying ht,hz,hst]
theorem kU {ops:Array Oper} {o:Oper} {a:Act} {w:World} {K:Act->World->Prop} {Q:Exit->Act->World->Prop} {E:Prop}
  (hg:o.guard=none) (d x:Operand) (dT sT:TypeId) (hop:o.op=Op.call { callee:=Callee.builtin Builtin.append,args:=#[d,x],argTypes:=#[dT,sT] })
  (v u:Value) (hd:a.eval d=v) (hx:a.eval x=u) {v':Value} {w':World} (hr:(Builtin.append_ #[dT,sT] o.type #[v,u]).run P w=.ok v' w') (hK:K (a.put o.dst v') w') :
  if Region.wanted o (yielded ops a.tmps)=true then Oper.wp P o a w K Q else E:=by
 have hw:Region.wanted o (yielded ops a.tmps)=true:=by simp [Region.wanted,hg]
 rw [if_pos hw]
 unfold Oper.wp
 simp [execOp,hop,resolve,invoke,builtin,hd,hx,hr,Result.andThen]
 exact hK
theorem gP (w:World) {ops:Array Oper} {rest:List Oper} {o:Oper} {a:Act} {Q:Exit->Act->World->Prop} (hgd:o.guard=none) (s:Operand) (t:TypeId)
  (ho:o.op=.call { callee:=.builtin .clear,args:=#[s],argTypes:=#[t] }) (v:Value) (hs:a.eval s=v) {v':Value} {w':World}
  (hr:(Builtin.clear_ #[t] o.type #[v]).run P w=.ok v' w') (h:wpList P ops Q rest (a.put o.dst v') w'):wpList P ops Q (o::rest) a w :=
 wpList_plain hgd fun K hK=>by
  unfold Oper.wp execOp
  simp only [ho,resolve,invoke,builtin,Sem.run_bind,Sem.run_pure,Result.andThen_ok,List.map_toArray,List.map_cons,List.map_nil,hs,hr]
  exact hK _ _ h
set_option maxHeartbeats 8000000 in
set_option maxRecDepth 100000 in
theorem wh (L:SlLaysE0.n45 P ρ) (i0:TypeInfo) (size:Nat) (hi:P.info? (ρ.t 23)=some i0) (hz1:i0.size=size) (z23:∀ w,(Go.sizeOf (ρ.t 23)).run P w=.ok size w) (base:Option Addr) (n cap i:Nat) (w:World) (hin:i<=n) (hnc:n<=cap) (hcm:cap<=maxLen) :
  Calls P (ρ.f 45) #[.slice base n cap,.int .i64 i,.int .i64 i] w fun e w'=>e=.returned (.slice base n cap)/\w'=w:=by
 have mixed:=L.mixed; have t0:=L.t0; have a0:=L.a0; have z0:=L.z0; have v0:=L.v0; have t3:=L.t3; have a3:=L.a3; have z3:=L.z3; have v3:=L.v3; have t4:=L.t4; have a4:=L.a4; have z4:=L.z4; have v4:=L.v4; have t22:=L.t22; have a22:=L.a22; have z22:=L.z22; have v22:=L.v22
 obtain ⟨_,_,FG⟩:=L.f45
 go_enter FG,SlBodyN.n45_ntmps ρ
 go_wp2
 all_goals (go_ret; exact ⟨rfl,rfl⟩)
set_option maxHeartbeats 8000000 in
set_option maxRecDepth 100000 in
theorem wi (L:SlLaysE0.n45 P ρ) (i0:TypeInfo) (z:Value) (size bytes:Nat) (hi:P.info? (ρ.t 23)=some i0) (hz0:i0.zero=some z) (hz1:i0.size=size) (hzs:z.cells.size=size) (hzo:∀ v∈z.cells.toList,v.oneCell'=true) (hsz:0<size)
  (z23:∀ w,(Go.sizeOf (ρ.t 23)).run P w=.ok size w) (v23:∀ w,(zeroValue (ρ.t 23)).run P w=.ok z w) (g n cap i j:Nat) (cur:Array Value) (w:World) (hg:w.heap[g]? = some (.cells cur (ρ.t 23) (0,0))) (hcs:cur.size=cap*size) (hij:i<j) (hjn:j<=n) (hnc:n<=cap) (hcm:cap<=maxLen)
  (h1:∀ u∈cur.toList.take (n*size),u.oneCell'=true) :
  Calls P (ρ.f 45) #[.slice (some ⟨g,0,none⟩) n cap,.int .i64 i,.int .i64 j] w fun e w'=>e=.returned (.slice (some ⟨g,0,none⟩) (n-(j-i)) cap) /\
   ∃ cur',w'.heap[g]? = some (.cells cur' (ρ.t 23) (0,0))/\cur'.size=cap*size/\cur'.toList.take ((n-(j-i))*size)=cur.toList.take (i*size)++(cur.toList.take (n*size)).drop (j*size)/\w.grownBy w' (some g):=by
 have mixed:=L.mixed; have t0:=L.t0; have a0:=L.a0; have z0:=L.z0; have v0:=L.v0; have t3:=L.t3; have a3:=L.a3; have z3:=L.z3; have v3:=L.v3; have t4:=L.t4; have a4:=L.a4; have z4:=L.z4; have v4:=L.v4; have t22:=L.t22; have a22:=L.a22; have z22:=L.z22; have v22:=L.v22
 have hcm':cap<=9223372036854775807:=hcm
 have hij1:¬ ((i:Int)=(j:Int)):=by omega
 have hb1:(i:Int)<=(j:Int):=by omega
 have hb2:¬ (cap=0):=by omega
 have hb3:(j:Int)<=(n:Int):=by omega
 have hb4:¬ (cap=i):=by omega
 have e4:j*size<=n*size:=Bd size hjn
 have e5:n*size<=cur.size:=by rw [hcs]; exact Bd size hnc
 have e6:i*size<=j*size:=Bd size (by omega)
 have e3:(n-j)*size=n*size-j*size:=Nat.sub_mul n j size
 have e7:(i+(n-j))*size=i*size+(n-j)*size:=Nat.add_mul _ _ size
 have hln:cur.toList.length=cur.size:=Array.length_toList
 have lm:((cur.toList.take (n*size)).drop (j*size)).length=(n-j)*size:=by rw [List.length_drop,List.length_take,hln,e3]; omega
 have hap:∀ (A:Addr) (c:Nat),(A=(⟨g,j*size,none⟩:Addr)\/n=j)->∀ ty,(Builtin.append_ #[(ρ.t 22),(ρ.t 22)] ty #[.slice (some ⟨g,0,none⟩) i cap,.slice (some A) (n-j) c]).run P w.drew=.ok (.slice (some ⟨g,0,none⟩) (i+(n-j)) cap) (w.drew.setRow g (cur.toList.take (i*size)++(cur.toList.take (n*size)).drop (j*size)++cur.toList.drop (i*size+((cur.toList.take (n*size)).drop (j*size)).length)).toArray):=fun A c hA ty=>by
  have:=run_append_room (P:=P) w.drew (ρ.t 22) ty (ρ.t 23) i0 L.t22 hi g i cap cur hg A (n-j) c ((cur.toList.take (n*size)).drop (j*size)) (by rw [lm,hz1]) (fun k u hk=>by
   have hk2:=(Aj.1 hk).1
   rw [lm] at hk2
   rcases hA with rfl | rfl
   ·rw [Addr.add_none]
    have h5:w.drew.cell? ⟨g,j*size+k,none⟩=cur[j*size+k]? := Qv hg
    rw [h5,<- hk,CC,BQ,if_pos (by omega),Array.getElem?_toList]
   ·simp at hk2) (fun u hu=>h1 u (List.mem_of_mem_drop hu)) (by omega) (by rw [lm,hz1,e3]; omega)
  rw [hz1] at this
  exact this
 obtain ⟨cur1,hcur1⟩:∃ c1,c1=(cur.toList.take (i*size)++(cur.toList.take (n*size)).drop (j*size)++cur.toList.drop (i*size+((cur.toList.take (n*size)).drop (j*size)).length)).toArray:=⟨_,rfl⟩
 rw [<- hcur1] at hap
 have hs1:cur1.size=cap*size:=by
  rw [hcur1,List.size_toArray,<- hcs]
  simp only [List.length_append,List.length_take,List.length_drop,hln,lm]
  omega
 have ht1:cur1.toList.take ((i+(n-j))*size)=cur.toList.take (i*size)++(cur.toList.take (n*size)).drop (j*size):=by
  have l3:(cur.toList.take (i*size)++(cur.toList.take (n*size)).drop (j*size)).length=(i+(n-j))*size:=by
   simp only [List.length_append,List.length_take,hln,lm,e7]
   omega
  rw [hcur1]
  exact (congrArg (fun k=>List.take k _) l3.symm).trans (by rw [List.take_left])
 have hg1:(w.drew.setRow g cur1).heap[g]? = some (.cells cur1 (ρ.t 23) (0,0)):=setRow_heap w.drew g cur cur1 (ρ.t 23) _ hg
 obtain ⟨d,hd⟩:∃ d,d=n-(i+(n-j)):=⟨_,rfl⟩
 have hdp:0<d:=by omega
 have e8:(i+(n-j))*size+d*size<=cur1.size:=by rw [hs1,<- Nat.add_mul]; exact Bd size (by omega)
 have hzc:∀ v∈(Builtin.zeroCells z.cells d).toList,v.oneCell'=true:=by
  intro v hv
  simp only [Builtin.zeroCells,Array.toList_map,List.mem_map] at hv
  obtain ⟨k,_,rfl⟩:=hv
  refine hzo _ ?_
  have hk:k % z.cells.size<z.cells.size:=Nat.mod_lt _ (by omega)
  rw [getElem!_pos z.cells _ hk]
  exact Array.getElem_mem_toList hk
 have hcl:∀ ty c,(Builtin.clear_ #[(ρ.t 22)] ty #[.slice (some ⟨g,(i+(n-j))*size,none⟩) (n-(i+(n-j))) c]).run P (w.drew.setRow g cur1)=.ok (.tuple #[]) ((w.drew.setRow g cur1).setRow g (cur1.toList.take ((i+(n-j))*size)++(Builtin.zeroCells z.cells d).toList++cur1.toList.drop ((i+(n-j))*size+(Builtin.zeroCells z.cells d).toList.length)).toArray):=fun ty c=>by
  rw [<- hd]
  exact vD _ _ (ρ.t 23) ty z L.t22 v23 g _ d c cur1 (ρ.t 23) hg1 hdp (by rw [hzs]; exact e8) hzc
 have lz:(Builtin.zeroCells z.cells d).toList.length=d*size:=by rw [Array.length_toList,size_zeroCells,hzs]
 obtain ⟨cur2,hcur2⟩:∃ c2,c2=(cur1.toList.take ((i+(n-j))*size)++(Builtin.zeroCells z.cells d).toList++cur1.toList.drop ((i+(n-j))*size+(Builtin.zeroCells z.cells d).toList.length)).toArray:=⟨_,rfl⟩
 rw [<- hcur2] at hcl
 have hs2:cur2.size=cap*size:=by
  rw [hcur2,List.size_toArray,<- hs1]
  simp only [List.length_append,List.length_take,List.length_drop,Array.length_toList,lz]
  rw [Array.length_toList] at lz
  omega
 have ht2:cur2.toList.take ((i+(n-j))*size)=cur.toList.take (i*size)++(cur.toList.take (n*size)).drop (j*size):=by
  have l4:(cur1.toList.take ((i+(n-j))*size)).length=(i+(n-j))*size:=by rw [List.length_take,Array.length_toList]; omega
  rw [hcur2,<- ht1,BW]
  exact (congrArg (fun k=>List.take k _) l4.symm).trans (by rw [List.take_left])
 have hkn:n-(j-i)=i+(n-j):=by omega
 rw [hkn]
 have hW1s:((w.drew.setRow g cur1).setRow g cur2).heap[g]? = some (.cells cur2 (ρ.t 23) (0,0)):=setRow_heap _ g cur1 cur2 _ _ hg1
 have hgr:w.grownBy ((w.drew.setRow g cur1).setRow g cur2) (some g):=by
  refine ⟨rfl,rfl,rfl,by rw [JW,JW]; exact Nat.le_refl _,fun k hk hne=>?_⟩
  have hk':k≠g:=fun e=>hne (by rw [e])
  rw [setRow_other _ g k _ hk',setRow_other _ g k _ hk']
  rfl
 obtain ⟨W1,hW1⟩:∃ W1,W1=w.drew.setRow g cur1:=⟨_,rfl⟩
 obtain ⟨W2,hW2⟩:∃ W2,W2=W1.setRow g cur2:=⟨_,rfl⟩
 rw [<- hW1,<- hW2] at hcl hW1s hgr
 rw [<- hW1] at hap
 have hb6:¬ (cap=i+(n-j)):=by omega
 have hb7:i+(n-j)<=n:=by omega
 have hb8:i<=cap:=by omega
 clear e3 e4 e5 e6 e7 e8 hcur1 hcur2 lm hW1 hW2 hd hkn hs1 ht1 hg1 lz
 obtain ⟨A,hAe,hAd⟩:∃ A:Addr,(if cap=j then some (⟨g,0,none⟩:Addr) else some ⟨g,j*size,none⟩)=some A/\(A=(⟨g,j*size,none⟩:Addr)\/n=j):=by
  by_cases h:cap=j
  ·exact ⟨⟨g,0,none⟩,by simp [h],.inr (by omega)⟩
  ·exact ⟨⟨g,j*size,none⟩,by simp [h],.inl rfl⟩
 have hap2:=hap A (cap-j) hAd
 clear hap hAd
 obtain ⟨_,_,FG⟩:=L.f45
 go_enter FG,SlBodyN.n45_ntmps ρ
 go_wp2
 go_region_law_o (refine kU rfl _ _ (ρ.t 22) (ρ.t 22) rfl _ _ (by simp [Act.eval,Act.put]) (by simp [Act.eval,Act.put,hAe]) (hap2 _) ?_)
 go_wp2_with (at_builtin; refine gP _ rfl _ (ρ.t 22) rfl _ rfl (hcl _ _) ?_)
 go_ret
 exact ⟨rfl,cur2,hW1s,hs2,ht2,hgr⟩
theorem zx {K:Kd} (L:SlLaysE0.n45 P ρ) (he:tu P (ρ.t 23) K=true) (hp:K.plain=true) {xs:List K.T} {i j:Nat} (hij:i<=j) (hj:j<=xs.length) :
  Wh P (ρ.f 45) [.new (ρ.t 23) K xs,.int .i64 i,.int .i64 j] [] [.new (ρ.t 23) K (xs.take i++xs.drop j)]:=by
 obtain ⟨i0,z,hi0,hz,h1,h2,h3,h4⟩:=Uj he
 have hsz:=Kd.sz_pos K
 have z23:∀ w,(Go.sizeOf (ρ.t 23)).run P w=.ok K.sz w:=fun w=>by simp [sizeOf,typeInfo,hi0,h1]
 have v23:∀ w,(zeroValue (ρ.t 23)).run P w=.ok z w:=fun w=>by simp [zeroValue,typeInfo,hi0,hz]
 refine ⟨?_,?_,1,rfl,fun H φ w cargs hs ha=>?_⟩
 ·obtain ⟨nm,hnm,hf⟩:=L.f45
  exact ⟨_,_,hf,hnm,rfl⟩
 ·intro r hr
  simp only [C1] at hr
  subst hr
  rfl
 ·obtain ⟨v0,r0,rfl,hv0,ha⟩:=ha
  obtain ⟨v1,r1,rfl,hv1,ha⟩:=ha
  obtain ⟨v2,r2,rfl,hv2,ha⟩:=ha
  have hr2:r2=[]:=ha
  subst hr2
  obtain ⟨flat,ho,hr⟩:=BC.flat (Kd.plain_ok hp) (hs.box 0 (.rows (ρ.t 23) K xs) rfl)
  have e0:v0=φ 0:=hv0.1.trans (Q9 ho)
  have e1:v1=.int .i64 i:=hv1
  have e2:v2=.int .i64 j:=hv2
  subst e0 e1 e2
  have hnew:(xs.take i++xs.drop j).length=xs.length-(j-i):=by simp only [List.length_append,List.length_take,List.length_drop]; omega
  have hstk:Bi [] [AV.new (ρ.t 23) K xs,.int .i64 i,.int .i64 j]=[.rows (ρ.t 23) K xs]:=rfl
  by_cases hlt:i=j
  ·subst hlt
   obtain ⟨base,n,cap,e0,hnn,hcap,hcm⟩:∃ base n cap,φ 0=.slice base n cap/\n=xs.length/\n<=cap/\cap<=maxLen:=by
    rcases ho.2 with ⟨e,h⟩ | ⟨g,cap,cur,e,_,_,hc,hm,_⟩
    ·exact ⟨none,0,0,e,h.symm,Nat.le_refl _,Nat.zero_le _⟩
    ·exact ⟨_,_,_,e,rfl,hc,hm⟩
   subst hnn
   rw [e0]
   refine Calls.mono (wh L i0 K.sz hi0 h1 z23 base _ cap i w hj hcap hcm) fun out w' h=>?_
   obtain ⟨rfl,rfl⟩:=h
   refine pX hstk hs ⟨rfl,rfl,rfl,Nat.le_refl _,fun _ _ _=>rfl⟩ (fun b hb=>.inl (by rw [e0]; exact hb)) (flat:=flat) ?_ ?_
   ·rw [List.take_append_drop,<- e0]; exact ho
   ·rw [List.take_append_drop]; exact hr
  ·obtain ⟨g,cap,cur,e0,_,hg,hc,hcm,hsc,ht⟩:=ho.2.resolve_left (fun h=>by omega)
   rw [e0]
   have hzo:∀ v∈z.cells.toList,v.oneCell'=true:=Yw (h4.plain (Kd.plain_ok hp) H)
   refine Calls.mono (wi L i0 z K.sz i0.bytes hi0 hz h1 h3 hzo hsz z23 v23 g xs.length cap i j cur w hg hsc (by omega) hj hc hcm (by rw [ht]; exact EI hr ho.1)) fun out w' h=>?_
   obtain ⟨rfl,cur',g1,g2,g3,g4⟩:=h
   have htk:cur.toList.take (i*K.sz)=flat.take (i*K.sz):=by
    rw [<- ht,List.take_take,Nat.min_eq_left (Bd _ (by omega))]
   have l1:(flat.take (i*K.sz)).length=(xs.take i).length*K.sz:=by
    have h5:=ho.1
    have h7:i*K.sz<=xs.length*K.sz:=Bd _ (by omega)
    rw [List.length_take,List.length_take,Nat.min_eq_left (show i<=xs.length by omega),h5]; omega
   have l2:(flat.drop (j*K.sz)).length=(xs.drop j).length*K.sz:=by rw [List.length_drop,List.length_drop,ho.1,Nat.sub_mul]
   refine pX hstk hs (by rw [e0]; exact g4) (fun b hb=>.inl (by rw [e0]; exact hb)) (flat:=flat.take (i*K.sz)++flat.drop (j*K.sz)) ?_ (IF (m8 hr i) l1 (m9 hr j))
   rw [hnew]
   refine ⟨?_,.inr ⟨g,cap,cur',rfl,Nat.zero_le _,g1,by omega,hcm,g2,by rw [g3,htk,ht]⟩⟩
   rw [List.length_append,l1,l2,<- Nat.add_mul,<- hnew,List.length_append]
def AA9 (t:TypeId) (K:Kd) (args bs:List AV):Option (List AV) :=
 match args,bs with
 | [.new t1 K1 xs,.int k i,.int k2 j],[]=>if h1:K1=K then (if t1=t/\k=.i64/\k2=.i64/\0<=i/\i<=j/\j<=xs.length then
   some [.new t K ((h1▸xs).take i.toNat++(h1▸xs).drop j.toNat)] else none) else none
 | _,_=>none
theorem ACH {t:TypeId} {K:Kd} {xs:List K.T} {i j:Nat} (hi:i<=j) (hj:j<=xs.length):AA9 t K [.new t K xs,.int .i64 i,.int .i64 j] []=some [.new t K (xs.take i++xs.drop j)]:=by
 have h0:(0:Int)<=(i:Int):=by omega
 have h1:(i:Int)<=(j:Int):=by omega
 have h2:(j:Int)<=(xs.length:Int):=by omega
 simp only [AA9,dif_pos,true_and]
 rw [if_pos ⟨h0,h1,h2⟩,Al,Al]
theorem ACI {K:Kd} (L:SlLaysE0.n45 P ρ) (he:tu P (ρ.t 23) K=true) (hp:K.plain=true) {args bs rs:List AV} (h:AA9 (ρ.t 23) K args bs=some rs):Wh P (ρ.f 45) args bs rs:=by
 unfold AA9 at h
 split at h
 ·split at h
  ·rename_i hk
   subst hk
   split at h
   ·rename_i hc
    obtain ⟨rfl,rfl,rfl,h0,hij,hj⟩:=hc
    cases h
    rename_i i _ j _
    obtain ⟨a,rfl⟩:=Int.eq_ofNat_of_zero_le h0
    obtain ⟨b,rfl⟩:=Int.eq_ofNat_of_zero_le (Int.le_trans h0 hij)
    exact zx L he hp (by omega) (by omega)
   ·cases h
  ·cases h
 ·cases h
end Go.Proofs.YtfcgblnlopemkaaGreat.Core

namespace Go.Proofs.YtfcgblnlopemkaaGreat.Core
open Go IntKind
set_option maxRecDepth 100000
noncomputable section
def ADD:Go.Shelf.Ren:=⟨fun | 41=>67 | n=>n,fun | 22=>28 | 23=>88 | n=>n,fun | n=>n⟩
theorem ACJ:SlLaysE0.n41 Tryz.prog ADD:={
 mixed:=by kernel_rfl
 f41:=⟨Tryz.f67.name,by decide,Tryz.func67.trans (congrArg some (by kernel_rfl))⟩
 t4:=Tryz.underlying4
 a4:=Tryz.isAgg4
 z4:=Tryz.sizeOf4
 v4:=Tryz.zeroValue4
 t22:=Tryz.underlying28
 a22:=Tryz.isAgg28
 z22:=Tryz.sizeOf28
 v22:=Tryz.zeroValue28 }
theorem ADb:tu Tryz.prog 88 Ag=true:=by kernel_rfl
def ADE:Go.Shelf.Ren:=⟨fun | 41=>81 | n=>n,fun | 22=>31 | 23=>3 | n=>n,fun | n=>n⟩
theorem ACK:SlLaysE0.n41 Tryz.prog ADE:={
 mixed:=by kernel_rfl
 f41:=⟨Tryz.f81.name,by decide,Tryz.func81.trans (congrArg some (by kernel_rfl))⟩
 t4:=Tryz.underlying4
 a4:=Tryz.isAgg4
 z4:=Tryz.sizeOf4
 v4:=Tryz.zeroValue4
 t22:=Tryz.underlying31
 a22:=Tryz.isAgg31
 z22:=Tryz.sizeOf31
 v22:=Tryz.zeroValue31 }
theorem ADc:tu Tryz.prog 3 (.int .i64)=true:=by kernel_rfl
def ADF:Go.Shelf.Ren:=⟨fun | 45=>90 | n=>n,fun | 22=>27 | 23=>90 | n=>n,fun | n=>n⟩
theorem ACL:SlLaysE0.n45 Tryz.prog ADF:={
 mixed:=by kernel_rfl
 f45:=⟨Tryz.f90.name,by decide,Tryz.func90.trans (congrArg some (by kernel_rfl))⟩
 t0:=Tryz.underlying0
 a0:=Tryz.isAgg0
 z0:=Tryz.sizeOf0
 v0:=Tryz.zeroValue0
 t3:=Tryz.underlying3
 a3:=Tryz.isAgg3
 z3:=Tryz.sizeOf3
 v3:=Tryz.zeroValue3
 t4:=Tryz.underlying4
 a4:=Tryz.isAgg4
 z4:=Tryz.sizeOf4
 v4:=Tryz.zeroValue4
 t22:=Tryz.underlying27
 a22:=Tryz.isAgg27
 z22:=Tryz.sizeOf27
 v22:=Tryz.zeroValue27 }
theorem ADd:tu Tryz.prog 90 AI=true:=by kernel_rfl
def ADG:Go.Shelf.Ren:=⟨fun | 41=>91 | n=>n,fun | 22=>68 | 23=>70 | n=>n,fun | n=>n⟩
theorem ACM:SlLaysE0.n41 Tryz.prog ADG:={
 mixed:=by kernel_rfl
 f41:=⟨Tryz.f91.name,by decide,Tryz.func91.trans (congrArg some (by kernel_rfl))⟩
 t4:=Tryz.underlying4
 a4:=Tryz.isAgg4
 z4:=Tryz.sizeOf4
 v4:=Tryz.zeroValue4
 t22:=Tryz.underlying68
 a22:=Tryz.isAgg68
 z22:=Tryz.sizeOf68
 v22:=Tryz.zeroValue68 }
theorem ADe:tu Tryz.prog 70 AG=true:=by kernel_rfl
def ACN:Go.Shelf.Ren:=⟨fun | 106=>140 | 213=>153 | 265=>159 | n=>n,fun | n=>n,fun | n=>n⟩
theorem AA_:Lays.n106 Tryz.prog ACN:={
 mixed:=by kernel_rfl
 f106:=Tryz.func140.trans (congrArg some (by kernel_rfl))
 f213:=Tryz.func153.trans (congrArg some (by kernel_rfl))
 f265:=Tryz.func159.trans (congrArg some (by kernel_rfl))
 t3:=Tryz.underlying3
 a3:=Tryz.isAgg3
 z3:=Tryz.sizeOf3
 v3:=Tryz.zeroValue3
 t9:=Tryz.underlying9
 a9:=Tryz.isAgg9
 z9:=Tryz.sizeOf9
 v9:=Tryz.zeroValue9 }
def ACO:Go.Shelf.Ren:=⟨fun | 22=>141 | 29=>154 | 30=>155 | n=>n,fun | 24=>68 | 9=>70 | n=>n,fun | n=>n⟩
theorem ABA:zv Tryz.prog ACO:={
 mixed:=by kernel_rfl
 f22:=⟨Tryz.f141.name,by decide,Tryz.func141.trans (congrArg some (by kernel_rfl))⟩
 ov:=fun args w=>run_callFunc_extern Tryz.func154 (by kernel_rfl) (by kernel_rfl) (by kernel_rfl) (by kernel_rfl) args w
 t3:=Tryz.underlying3
 a3:=Tryz.isAgg3
 z3:=Tryz.sizeOf3
 v3:=Tryz.zeroValue3
 t4:=Tryz.underlying4
 a4:=Tryz.isAgg4
 z4:=Tryz.sizeOf4
 v4:=Tryz.zeroValue4
 t24:=Tryz.underlying68
 a24:=Tryz.isAgg68
 z24:=Tryz.sizeOf68
 v24:=Tryz.zeroValue68 }
theorem ADH:tu Tryz.prog 70 AG=true:=by kernel_rfl
def ACP:Go.Shelf.Ren:=⟨fun | 10=>156 | 6=>161 | n=>n,fun | 22=>31 | 23=>3 | 25=>83 | n=>n,fun | n=>n⟩
theorem ABB:SlLaysH.n10 Tryz.prog ACP:={
 mixed:=by kernel_rfl
 f6:=⟨Tryz.f161.name,by decide,Tryz.func161.trans (congrArg some (by kernel_rfl))⟩
 f10:=⟨Tryz.f156.name,by decide,Tryz.func156.trans (congrArg some (by kernel_rfl))⟩
 t0:=Tryz.underlying0
 a0:=Tryz.isAgg0
 z0:=Tryz.sizeOf0
 v0:=Tryz.zeroValue0
 t3:=Tryz.underlying3
 a3:=Tryz.isAgg3
 z3:=Tryz.sizeOf3
 v3:=Tryz.zeroValue3
 t4:=Tryz.underlying4
 a4:=Tryz.isAgg4
 z4:=Tryz.sizeOf4
 v4:=Tryz.zeroValue4
 t22:=Tryz.underlying31
 a22:=Tryz.isAgg31
 z22:=Tryz.sizeOf31
 v22:=Tryz.zeroValue31
 a23:=Tryz.isAgg3
 z23:=Tryz.sizeOf3
 t25:=Tryz.underlying83
 a25:=Tryz.isAgg83
 z25:=Tryz.sizeOf83
 v25:=Tryz.zeroValue83 }
theorem ABC:ADC Tryz.prog 157:=⟨enters_of Tryz.func157 (by kernel_rfl) rfl,fun n x b o W hc=>by
 go_enter Tryz.func157,Tryz.ntmps157
 go_wp2
 all_goals (go_ret; exact ⟨by simp_all,0,rfl⟩)⟩

def ADf:List (Nat×BI):=[(3,An),(4,EK),(5,Di),(6,BU),(7,EL),(8,Dj),(9,BO),(10,MO),(11,FB),(12,EM),(13,Dk),(14,DA),(15,Ct),(16,JP),(17,Dl),(18,JQ),(19,Dm),(20,OV),(21,MP),(22,Dn),(23,G8),(24,Qq),(25,EN),(26,FC),(27,MQ),(28,Do),(29,G9),(30,Hf),(31,OW),(32,BT),(33,DB),(34,FD),(35,EO),(36,MR),(37,Dp),(38,Cb),(39,Dq),(40,DC),(41,DD),(42,Cc),(43,Dr),(44,DE),(45,EP),(46,CT),(47,FW),(48,Qr),(49,Kp),(50,Ds),(51,Cl),(52,TA),(53,OX),(54,Cd),(55,MS),(56,CB),(57,DF),(58,FX),(59,MT),(60,OY),(61,JR),(62,Hg),(63,Ce),(64,Gr),(65,TE),(66,GP),(68,Ic),(69,MU),(70,Kq),(71,Qs),(72,OZ),(73,DG),(74,DH),(75,EQ),(76,GQ),(77,B7),(78,C3),(79,Bx),(80,By),(82,Dy),(83,Qt),(84,EF),(85,CW),(86,GR),(87,Aa),(88,Fw),(89,GS),(92,ER),(93,Oa),(94,GG),(95,FE),(96,BL),(97,DK),(98,JS),(99,FF),(100,E1),(101,Cj),(102,MY),(103,Kr),(104,GH),(105,Cm),(106,FI),(107,CG),(108,Fx),(109,D6),(110,B6),(111,Id),(112,E2),(113,G_),(114,Ob),(115,FJ),(116,ES),(117,JT),(118,Cu),(119,Cf),(120,ET),(121,GT),(122,BM),(123,Kt),(124,EU),(125,E3),(126,CL),(127,AZ),(133,Mb),(137,Cv),(138,AR),(139,JU),(142,D7),(143,Bn),(144,Mc),(145,Dh),(146,DL),(152,Ku),(2000007,DM),(2000008,Cw),(2000057,Cg),(2000068,Gs),(2000069,JV)]
def fns (f:Nat):Option BI:=ACD f ADf
theorem ADo:AAu Tryz.prog fns:=zq (.cons Wd <| .cons qe <| .cons nW <| .cons nX <| .cons qf <| .cons nY <| .cons nZ <| .cons qg <| .cons sq <| .cons qh <| .cons na <| .cons j7 <| .cons gG <| .cons j8 <| .cons nb <| .cons j9 <| .cons nc <| .cons ss <| .cons qi <| .cons ne <| .cons qj <| .cons uu <| .cons qk <| .cons su <| .cons ql <| .cons ng <| .cons qm <| .cons dL <| .cons sw <| .cons j_ <| .cons kA <| .cons sx <| .cons qn <| .cons qo <| .cons nh <| .cons dM <| .cons ni <| .cons kC <| .cons kD <| .cons dN <| .cons nj <| .cons kF <| .cons qp <| .cons bL <| .cons kG <| .cons uv <| .cons nl <| .cons nn <| .cons kH <| .cons wV <| .cons sy <| .cons dO <| .cons qq <| .cons qr <| .cons kI <| .cons kJ <| .cons qt <| .cons s_ <| .cons uw <| .cons dP <| .cons dQ <| .cons bM <| .cons wW <| .cons ZI <| .cons gH <| .cons qu <| .cons no <| .cons ux <| .cons tA <| .cons kK <| .cons kL <| .cons qv <| .cons uy <| .cons uz <| .cons u5 <| .cons qw <| .cons We <| .cons SX <| .cons u6 <| .cons u7 <| .cons gI <| .cons u9 <| .cons Hh <| .cons YU <| .cons ZQ <| .cons qx <| .cons tB <| .cons np <| .cons tC <| .cons qy <| .cons kM <| .cons kN <| .cons tD <| .cons u_ <| .cons tE <| .cons qz <| .cons nq <| .cons ns <| .cons Wf <| .cons tF <| .cons ZU <| .cons YV <| .cons dR <| .cons YW <| .cons gJ <| .cons Wg <| .cons q8 <| .cons tG <| .cons tH <| .cons q9 <| .cons kO <| .cons gK <| .cons dS <| .cons q_ <| .cons ZV <| .cons Qu <| .cons nt <| .cons rA <| .cons vA <| .cons dU <| .cons L8 <| .cons rB <| .cons gL <| .cons E4 <| .cons kP <| .cons dV <| .cons YX <| .cons rC <| .cons bN <| .cons ZZ <| .cons nu <| .cons kQ <| .cons gM <| .cons dW <| .cons bO <| .cons kR .nil)
def prims:Fv:=fun f args bs=>if f=67 then rD 88 Ag args bs else if f=81 then rD 3 .W args bs else if f=90 then AA9 90 AI args bs else if f=91 then rD 70 AG args bs else if f=140 then ADB args bs else if f=141 then AA6 70 AG args bs else if f=156 then wg 3 157 args bs else none
theorem ACQ:Hc Tryz.prog prims:=by
 refine ⟨fun f k t T hf h=>?_,fun f args bs rs hf h=>?_⟩<;>unfold prims at h
 ·rcases Ie h with ⟨e,h⟩ | ⟨_,h⟩
  ·exfalso; unfold Ca at e; omega
  rcases Ie h with ⟨e,h⟩ | ⟨_,h⟩
  ·exfalso; unfold Ca at e; omega
  rcases Ie h with ⟨e,h⟩ | ⟨_,h⟩
  ·exfalso; unfold Ca at e; omega
  rcases Ie h with ⟨e,h⟩ | ⟨_,h⟩
  ·exfalso; unfold Ca at e; omega
  rcases Ie h with ⟨e,h⟩ | ⟨_,h⟩
  ·exfalso; unfold Ca at e; omega
  rcases Ie h with ⟨e,h⟩ | ⟨_,h⟩
  ·exfalso; unfold Ca at e; omega
  rcases Ie h with ⟨e,h⟩ | ⟨_,h⟩
  ·exfalso; unfold Ca at e; omega
  cases h
 ·rcases Ie h with ⟨e,h⟩ | ⟨_,h⟩
  ·subst e; exact rF ACJ ADb h
  rcases Ie h with ⟨e,h⟩ | ⟨_,h⟩
  ·subst e; exact rF ACK ADc h
  rcases Ie h with ⟨e,h⟩ | ⟨_,h⟩
  ·subst e; exact ACI ACL ADd rfl h
  rcases Ie h with ⟨e,h⟩ | ⟨_,h⟩
  ·subst e; exact rF ACM ADe h
  rcases Ie h with ⟨e,h⟩ | ⟨_,h⟩
  ·subst e; exact ACG AA_ h
  rcases Ie h with ⟨e,h⟩ | ⟨_,h⟩
  ·subst e; exact ACF ABA ADH rfl h
  rcases Ie h with ⟨e,h⟩ | ⟨_,h⟩
  ·subst e; exact AA8 ABB Tryz.zeroValue3 ABC h
  cases h
abbrev cP:Fv:=ui fns prims
def cG {ρ:Type} (c:AH) (kn kr:St->Option ρ) (ke:Nat->St->Option ρ):St->Option ρ:=G6 cP Lo c kn kr ke
def lG {ρ:Type} (c:AH) (hs:List (Nat×Nat)) (l:List Nat) (n:Nat) (kr:St->Option ρ) (ke:Nat->St->Option ρ):St->Option ρ:=Lo fun go s'=>G6 cP Lo c (fun s''=>go (s''.cutH hs l n)) kr ke s'
def kB {ρ:Type} (hs:List (Nat×Nat)) (l:List Nat) (n:Nat) (kn:St->Option ρ):St->Option ρ:=fun s=>kn (s.cutH hs l n)
def kE {ρ:Type} (b:Nat) (hs:List (Nat×Nat)) (l:List Nat) (n:Nat) (kn:St->Option ρ) (ke:Nat->St->Option ρ):Nat->St->Option ρ:=fun i s=>if i=b then kn (s.cutH hs l n) else ke i s
def kx {ρ:Type}:Nat->St->Option ρ:=fun _ _=>none
def cF (f:Nat) (a:BI) (x b:List AV):Option (RT a.outs):=(cP f x b).bind (C7 a.outs)
theorem cT (a:BI) {f:Nat} {x b:List AV} {t:Option (RT a.outs)} {r:RT a.outs} (hf:fns f=some a) (hl:x.length=a.params.length/\b.length=(EH a.params 0).length) (e:AA1 cP a x b=t) (h:t=some r):cF f a x b=some r:=xu hf hl (e.trans h)
theorem jS {ρ:Type} {t w:Option ρ} {r:ρ} (e:w=t) (h:t=some r):w=some r:=e.trans h
theorem lS {ρ:Type} {c:AH} {hs:List (Nat×Nat)} {l:List Nat} {n:Nat} {kr:St->Option ρ} {ke:Nat->St->Option ρ} {s:St} {t:Option ρ} {r:ρ} (e:G6 cP Lo c (fun s=>lG c hs l n kr ke (s.cutH hs l n)) kr ke s=t) (h:t=some r):lG c hs l n kr ke s=some r:=zo (e.trans h)
def Me (x0:List (List Int)) (x1:List AQ):Option Bool:=cF 3 An [.lst .S x0,.lst AO x1] []
def Mf (x0:List (List Int)) (x1:Int):Option Int:=cF 4 EK [.lst .S x0,.int .i64 x1] []
def IA (x0:List AQ) (x1:Int):Option Int:=cF 5 Di [.lst AO x0,.int .i64 x1] []
def Kv (x0:List (List Int)) (x1:List AQ):Option (AL×List Int×Bool):=cF 6 BU [.lst .S x0,.lst AO x1] []
def I1 (x0:List (List Int)):Option (List (List Int)):=cF 7 EL [.lst .S x0] []
def IB (x0:List AQ):Option (List AQ):=cF 8 Dj [.lst AO x0] []
def Kw (x0:List (List Int)) (x1:List AQ):Option (AL×List Int×Bool):=cF 9 BO [.lst .S x0,.lst AO x1] []
def I2 (x0 x1:AL):Option Bool:=cF 10 MO [.agg (Ao.enc x0),.agg (Ao.enc x1)] []
def FQ (x0 x1:List Int):Option Bool:=cF 11 FB [.lst .W x0,.lst .W x1] []
def Mg (x0 x1:List (List Int)):Option Bool:=cF 12 EM [.lst .S x0,.lst .S x1] []
def Pc (x0 x1:List AQ):Option Bool:=cF 13 Dk [.lst AO x0,.lst AO x1] []
def JX (x1:Int) (b0:List (List Int)):Option (Int×List (List Int)):=cF 14 DA [.row 0,.int .i64 x1] [.new 31 (.own 3 .W) b0]
def Mh (x1:Int) (b0:List AQ):Option (Int×List AQ):=cF 15 Ct [.row 0,.int .i64 x1] [.new 51 AO b0]
def N6 (x1:Int) (b0:List (List Int)) (b1:List Z) (b2:List AD) (b3:List AP):Option (Int×List (List Int)×List Z×List AD×List AP):=cF 16 JP [.agg [.row 0,.row 1,.row 2,.row 3],.int .i64 x1] [.new 31 (.own 3 .W) b0,.new 74 Ai b1,.new 90 Bb b2,.new 88 Ag b3]
def C4 (x1:Int) (b0:List Int):Option (Int×List Int):=cF 17 Dl [.row 0,.int .i64 x1] [.new 3 .W b0]
def JY (x0:AL) (x1:Int):Option Int:=cF 18 JQ [.agg (Ao.enc x0),.int .i64 x1] []
def Ck (x0:List Int) (x1:Int):Option Int:=cF 19 Dm [.lst .W x0,.int .i64 x1] []
def Oc (x0:List Int) (x1:Int):Option Int:=cF 20 OV [.lst .W x0,.int .i64 x1] []
def Rm (x0:AQ) (x1:Int):Option Int:=cF 21 MP [.agg (AO.enc x0),.int .i64 x1] []
def Kx (x0:List (List Int)):Option (AL×Bool):=cF 22 Dn [.lst .S x0] []
def Rn (x0:AQ):Option Bool:=cF 23 G8 [.agg (AO.enc x0)] []
def Wi (x1:Int) (x2:AQ) (b0:AL):Option (Int×AL):=cF 24 Qq [.ptr 0 0,.int .i64 x1,.agg (AO.enc x2)] [.agg (Ao.enc b0)]
def Ro (x0:AL):Option AL:=cF 25 EN [.agg (Ao.enc x0)] []
def Od (x0:List Int):Option (List Int):=cF 26 FC [.lst .W x0] []
def Mi (x0:AQ):Option AQ:=cF 27 MQ [.agg (AO.enc x0)] []
def Ky (x0:List (List Int)):Option (AL×Bool):=cF 28 Do [.lst .S x0] []
def Rp (x0:AQ):Option Bool:=cF 29 G9 [.agg (AO.enc x0)] []
def Hi (x1:AQ) (x2:Int) (b0:AL):Option (Bool×AL):=cF 30 Hf [.ptr 0 0,.agg (AO.enc x1),.int .i64 x2] [.agg (Az.enc b0)]
def UM (x0:Bool):Option Int:=cF 31 OW [.bool x0] []
def JZ (x0:AL):Option AL:=cF 32 BT [.agg (Ao.enc x0)] []
def N7 (x0 x1:List Z):Option Bool:=cF 33 DB [.lst AB x0,.lst AB x1] []
def UN (x0 x1:List AD):Option Bool:=cF 34 FD [.lst AI x0,.lst AI x1] []
def Rq (x0 x1:List AP):Option Bool:=cF 35 EO [.lst Ag x0,.lst Ag x1] []
def Rr (x0 x1:AQ):Option Bool:=cF 36 MR [.agg (AO.enc x0),.agg (AO.enc x1)] []
def Aw (x0:Int):Option ByteArray:=cF 37 Dp [.int .i64 x0] []
def LD (x1:Int) (b0:List Z):Option (Int×List Z):=cF 38 Cb [.row 0,.int .i64 x1] [.new 74 Ai b0]
def Pd (x1:Int) (b0:List AD):Option (Int×List AD):=cF 39 Dq [.row 0,.int .i64 x1] [.new 90 Bb b0]
def N8 (x1:Int) (b0:List AP):Option (Int×List AP):=cF 40 DC [.row 0,.int .i64 x1] [.new 88 Ag b0]
def N9 (x0:List (List Int)) (x1:Int):Option Int:=cF 41 DD [.lst .S x0,.int .i64 x1] []
def LE (x0:List Z) (x1:Int):Option Int:=cF 42 Cc [.lst AB x0,.int .i64 x1] []
def Pe (x0:List AD) (x1:Int):Option Int:=cF 43 Dr [.lst AI x0,.int .i64 x1] []
def N_ (x0:List AP) (x1:Int):Option Int:=cF 44 DE [.lst Ag x0,.int .i64 x1] []
def EV (x0:List (List Int)):Option Bool:=cF 45 EP [.lst .S x0] []
def Gt (x0:List (List Int)):Option (List (List Int)):=cF 46 CT [.lst .S x0] []
def OA (x0:Int) (x1:List (List Int)):Option (Z×Bool):=cF 47 FW [.int .i64 x0,.lst .S x1] []
def Ab (x0 x1 x2:Int):Option Bool:=cF 48 Qr [.int .i64 x0,.int .i64 x1,.int .i64 x2] []
def Pf (x1:Int) (x2:AQ) (b0:AL):Option (Int×AL):=cF 49 Kp [.ptr 0 0,.int .i64 x1,.agg (AO.enc x2)] [.agg (Ao.enc b0)]
def Pg (x1 x2:Int) (b0:AL):Option (Int×AL):=cF 50 Ds [.ptr 0 0,.int .i64 x1,.int .i64 x2] [.agg (Ao.enc b0)]
def FY (x1:Z) (x2:List AD) (x3:List AM) (x4:Int) (b0:AL):Option AL:=cF 51 Cl [.ptr 0 0,.agg (AB.enc x1),.lst AI x2,.lst BD x3,.int .i64 x4] [.agg (Ao.enc b0)]
def Za (x0:Z):Option Z:=cF 52 TA [.agg (AB.enc x0)] []
def UO (x1:Int) (x2:AQ) (b0:AL):Option (Int×AL):=cF 53 OX [.ptr 0 0,.int .i64 x1,.agg (AO.enc x2)] [.agg (Ao.enc b0)]
def LF (x0:List AD):Option (List AD):=cF 54 Cd [.lst AI x0] []
def DZ (x0:Z):Option Z:=cF 55 MS [.agg (AB.enc x0)] []
def EW (x0:List (List Int)):Option Bool:=cF 56 CB [.lst .S x0] []
def OB (x0:List (List Int)):Option (List (List Int)):=cF 57 DF [.lst .S x0] []
def OC (x0:Int) (x1:List (List Int)):Option (Z×Bool):=cF 58 FX [.int .i64 x0,.lst .S x1] []
def Av (x0 x1 x2:Int):Option Bool:=cF 59 MT [.int .i64 x0,.int .i64 x1,.int .i64 x2] []
def FR (x0:Int):Option Bool:=cF 60 OY [.int .i64 x0] []
def Mj (x0 x1:Int) (x2 x3:ByteArray):Option Bool:=cF 61 JR [.int .i64 x0,.int .i64 x1,.str x2,.str x3] []
def LG (x1:AQ) (x2:Int) (b0:AL):Option (Bool×AL):=cF 62 Hg [.ptr 0 0,.agg (AO.enc x1),.int .i64 x2] [.agg (Az.enc b0)]
def LI (x1:AQ) (x2:Int) (b0:AL):Option (Bool×AL):=cF 63 Ce [.ptr 0 0,.agg (AO.enc x1),.int .i64 x2] [.agg (Az.enc b0)]
def B8 (x1:Int) (b0:AL):Option (Int×AL):=cF 64 Gr [.ptr 0 0,.int .i64 x1] [.agg (Az.enc b0)]
def Ta (x0:Z):Option Z:=cF 65 TE [.agg (AB.enc x0)] []
def I3 (x1:AQ) (x2:Int) (b0:AL):Option (Bool×AL):=cF 66 GP [.ptr 0 0,.agg (AO.enc x1),.int .i64 x2] [.agg (Az.enc b0)]
def Da (x0:Z):Option Z:=cF 68 Ic [.agg (AB.enc x0)] []
def I4 (x0:AD):Option AD:=cF 69 MU [.agg (AI.enc x0)] []
def Ph (x0 x1:Z):Option Bool:=cF 70 Kq [.agg (AB.enc x0),.agg (AB.enc x1)] []
def Wj (x0 x1:AD):Option Bool:=cF 71 Qs [.agg (AI.enc x0),.agg (AI.enc x1)] []
def UP (x0 x1:AP):Option Bool:=cF 72 OZ [.agg (Ag.enc x0),.agg (Ag.enc x1)] []
def FZ (x1:Int) (b0:List AA):Option (Int×List AA):=cF 73 DG [.row 0,.int .i64 x1] [.new 70 AG b0]
def Fa (x0:List AA) (x1:Int):Option Int:=cF 74 DH [.lst AG x0,.int .i64 x1] []
def Rs (x0:List Int):Option Bool:=cF 75 EQ [.lst .W x0] []
def E5 (x0:List Int) (x1:Int):Option Bool:=cF 76 GQ [.lst .W x0,.int .i64 x1] []
def Wk (x0:Z) (x1:List (List Int)) (x2 x3:Int) (x4 x5:ByteArray):Option (Z×List AD×List AM×Bool):=cF 77 B7 [.agg (AB.enc x0),.lst .S x1,.int .i64 x2,.int .i64 x3,.str x4,.str x5] []
def Wl (x0:Z) (x1:List (List Int)) (x2:Int):Option (Z×List AD×Bool):=cF 78 C3 [.agg (AB.enc x0),.lst .S x1,.int .i64 x2] []
def Rt (x0:Z) (x1:List (List Int)) (x2:AD):Option (Z×List AD×List AM):=cF 79 Bx [.agg (AB.enc x0),.lst .S x1,.agg (AI.enc x2)] []
def Db (x0:List Int) (x1:Int):Option Int:=cF 80 By [.lst .W x0,.int .i64 x1] []
def Co (x0:List Int) (x1:Int):Option Bool:=cF 82 Dy [.lst .W x0,.int .i64 x1] []
def Qw (x0:ByteArray):Option Bool:=cF 83 Qt [.str x0] []
def Qx (x0:Z) (x1:List (List Int)) (x2 x3:Int) (x4 x5:ByteArray):Option (Z×List AD×List AM×Bool):=cF 84 EF [.agg (AB.enc x0),.lst .S x1,.int .i64 x2,.int .i64 x3,.str x4,.str x5] []
def GU (x1:List AD) (x2:List AM) (x3:Int) (b0:AL):Option AL:=cF 85 CW [.ptr 0 0,.lst AI x1,.lst BD x2,.int .i64 x3] [.agg (Az.enc b0)]
def Qy (x0:Z) (x1:List (List Int)) (x2:Int):Option (Z×List AD×Bool):=cF 86 GR [.agg (AB.enc x0),.lst .S x1,.int .i64 x2] []
def CM (x0:List Z) (x1:Int):Option Int:=cF 87 Aa [.lst AB x0,.clo 88 .W x1] []
def IQ (x0:Z) (x1:Int):Option Bool:=cF 88 Fw [.agg (AB.enc x0),.fptr [.int .i64 x1] 0] []
def I5 (x1 x2:Int) (b0:AL):Option AL:=cF 89 GS [.ptr 0 0,.int .i64 x1,.int .i64 x2] [.agg (Az.enc b0)]
def Mk (x0 x1:List AA):Option Bool:=cF 92 ER [.lst AG x0,.lst AG x1] []
def UQ (x0 x1:jq):Option Bool:=cF 93 Oa [.agg (Gk.enc x0),.agg (Gk.enc x1)] []
def GI (x0:Z):Option Bool:=cF 94 GG [.agg (AB.enc x0)] []
def Oe (x0:List AA) (x1:ByteArray):Option AA:=cF 95 FE [.lst AG x0,.str x1] []
def I6 (x0:List AA) (x1:AA):Option (List AA):=cF 96 BL [.lst AG x0,.agg (AG.enc x1)] []
def HC (x0:List Int) (x1:Int):Option (List Int):=cF 97 DK [.lst .W x0,.int .i64 x1] []
def HD (b0:Z):Option (List AM×Z):=cF 98 JS [.ptr 0 0] [.agg (AB.enc b0)]
def Of (x1:List Int) (x2:List AA) (b0:Z):Option (List AD×Z):=cF 99 FF [.ptr 0 0,.lst .W x1,.lst AG x2] [.agg (AB.enc b0)]
def Wm (x0:AD):Option Bool:=cF 100 E1 [.agg (AI.enc x0)] []
def UR (x0:Z) (x1:List Int) (x2:AD):Option (Z×List AD×List AM):=cF 101 Cj [.agg (AB.enc x0),.lst .W x1,.agg (AI.enc x2)] []
def Ml (x0:Z) (x1:Int):Option Z:=cF 102 MY [.agg (AB.enc x0),.int .i64 x1] []
def Eh (x0:Z) (x1:AD) (x2:Int):Option (List AD):=cF 103 Kr [.agg (AB.enc x0),.agg (AI.enc x1),.int .i64 x2] []
def GJ (x0:Z):Option Bool:=cF 104 GH [.agg (AB.enc x0)] []
def Hj (x1:List (List Int)) (b0:Z):Option (Bool×Z):=cF 105 Cm [.ptr 0 0,.lst .S x1] [.agg (AB.enc b0)]
def Og (x0:List AA) (x1:ByteArray):Option AA:=cF 106 FI [.lst AG x0,.str x1] []
def CH (x1:List Int) (b0:Z):Option (List Int×Z):=cF 107 CG [.ptr 0 0,.lst .W x1] [.agg (AB.enc b0)]
def Cx (b0:List Int):Option (List Int):=cF 108 Fx [.row 0] [.new 3 .W b0]
def Hk (b0:Z):Option (List AM×Z):=cF 109 D6 [.ptr 0 0] [.agg (AB.enc b0)]
def Ar (x1:List Int) (x2:AD) (b0:Z):Option (List AD×Z):=cF 110 B6 [.ptr 0 0,.lst .W x1,.agg (AI.enc x2)] [.agg (AB.enc b0)]
def GV (b0:Z):Option Z:=cF 111 Id [.ptr 0 0] [.agg (AB.enc b0)]
def Dc (x1:List Int) (x2:List AA) (b0:Z):Option (List AD×Z):=cF 112 E2 [.ptr 0 0,.lst .W x1,.lst AG x2] [.agg (AB.enc b0)]
def Mm (x0:Z) (x1:List (List Int)) (x2:AD):Option (Z×List AD×List AM):=cF 113 G_ [.agg (AB.enc x0),.lst .S x1,.agg (AI.enc x2)] []
def Oh (x0 x1:AA):Option Bool:=cF 114 Ob [.agg (AG.enc x0),.agg (AG.enc x1)] []
def DX (x0:List Int):Option Bool:=cF 115 FJ [.lst .W x0] []
def Dd (x0:List AA):Option Bool:=cF 116 ES [.lst AG x0] []
def OD (x0:jq):Option Bool:=cF 117 JT [.agg (Gk.enc x0)] []
def If (x0:List Int) (x1:Int):Option (List Int):=cF 118 Cu [.lst .W x0,.int .i64 x1] []
def Hl (x0:List Int) (x1 x2:Int):Option Bool:=cF 119 Cf [.lst .W x0,.int .i64 x1,.int .i64 x2] []
def Fj (x0:List AA):Option Bool:=cF 120 ET [.lst AG x0] []
def DN (b0:Z):Option (Bool×Z):=cF 121 GT [.ptr 0 0] [.agg (AB.enc b0)]
def E6 (x1 x2 x3:Int) (b0:List Int):Option (List Int):=cF 122 BM [.row 0,.int .i64 x1,.int .i64 x2,.int .i64 x3] [.new 3 .W b0]
def Pi (x0:Int):Option Int:=cF 123 Kt [.int .u64 x0] []
def Mn (x0:List AA) (x1:AA):Option (List AA):=cF 124 EU [.lst AG x0,.agg (AG.enc x1)] []
def Wn (x0:AD):Option Bool:=cF 125 E3 [.agg (AI.enc x0)] []
def LJ (x1:List (List Int)) (x2:AD) (b0:Z):Option (List AD×List AM×Z):=cF 126 CL [.ptr 0 0,.lst .S x1,.agg (AI.enc x2)] [.agg (AB.enc b0)]
def DU (x1 x2:Int) (b0:List Int):Option (List Int):=cF 127 AZ [.row 0,.int .i64 x1,.int .i64 x2] [.new 3 .W b0]
def Ru (x0 x1:Int):Option Bool:=cF 133 Mb [.int .i64 x0,.int .i64 x1] []
def Mo (x0:Int):Option Int:=cF 137 Cv [.int .u64 x0] []
def BY (x0:List AA) (x1:ByteArray) (x2:Unit):Option (Int×Bool):=cF 138 AR [.lst AG x0,.str x1,.fn 139 []] []
def Ja (x0:AA) (x1:ByteArray):Option Int:=cF 139 JU [.agg (AG.enc x0),.str x1] []
def LK (x1:List (List Int)) (x2:AD) (b0:Z):Option (List AD×Z):=cF 142 D7 [.ptr 0 0,.lst .S x1,.agg (AI.enc x2)] [.agg (AB.enc b0)]
def IR (x1:List Int) (x2:AD) (b0:Z):Option (List AD×Z):=cF 143 Bn [.ptr 0 0,.lst .W x1,.agg (AI.enc x2)] [.agg (AB.enc b0)]
def Mp (x0:List Int) (x1:Int):Option (List Int):=cF 144 Mc [.lst .W x0,.int .i64 x1] []
def KD (x1:AD) (b0:Z):Option (List AD×Z):=cF 145 Dh [.ptr 0 0,.agg (AI.enc x1)] [.agg (AB.enc b0)]
def GW (x1:Int) (x2:AD) (b0:Z):Option (List AM×Z):=cF 146 DL [.ptr 0 0,.int .i64 x1,.agg (AI.enc x2)] [.agg (AB.enc b0)]
def Kz (x0:Int):Option Bool:=cF 152 Ku [.int .i64 x0] []
def OE (x0:List (List Int)):Option (List (List Int)):=cF 2000007 DM [.lst .S x0] []
def Mq (x0:List AQ):Option (List AQ):=cF 2000008 Cw [.lst AO x0] []
def LL (x0:List (List Int)):Option (List (List Int)):=cF 2000057 Cg [.lst .S x0] []
def KE (x0:Z):Option Z:=cF 2000068 Gs [.agg (AB.enc x0)] []
def OF (x0:AD):Option AD:=cF 2000069 JV [.agg (AI.enc x0)] []
def C9 (q0:List AP):Option (List AP):=(cP 67 [.lst Ag q0] []).bind (C7 [(.own 88 Ag)])
def BG (q0:List Int):Option (List Int):=(cP 81 [.lst .W q0] []).bind (C7 [(.own 3 .W)])
def Bq (q0:List AD) (q1 q2:Int):Option (List AD):=(cP 90 [.new 90 AI q0,.int .i64 q1,.int .i64 q2] []).bind (C7 [(.own 90 AI)])
def Ae (q0:List AA):Option (List AA):=(cP 91 [.lst AG q0] []).bind (C7 [(.own 70 AG)])
def Pj (q0 q1:Int) (q2:List Int):Option (List Int):=(cP 128 [.row 0,.int .i64 q0,.int .i64 q1] [.new 3 .W q2]).bind (C7 [(.own 3 .W)])
def L9 (q0 q1:Int) (q2:List Int):Option (List Int):=(cP 129 [.row 0,.int .i64 q0,.int .i64 q1] [.new 3 .W q2]).bind (C7 [(.own 3 .W)])
def Cy (q0:List AA) (q1:Int) (q2:List AA):Option (List AA):=(cP 141 [.new 70 AG q0,.int .i64 q1,.new 70 AG q2] []).bind (C7 [(.own 70 AG)])
def Mr (q0 q1:ByteArray):Option Int:=(cP 140 [.str q0,.str q1] []).bind (C7 [.W])
def E7 (q0:List Int) (q1:Int):Option (List Int):=(cP 156 [.new 3 .W q0,.clo 157 .W q1] []).bind (C7 [(.own 3 .W)])
theorem LN {x0:List AP} (h:x0.length<=68719476736):C9 x0=some x0:=by
 unfold C9 cP
 rw [Ny (r:=[.new 88 Ag x0]) rfl (rE (t:=88) (K:=Ag) (xs:=x0) h)]
 rfl
theorem BZ {x0:List Int} (h:x0.length<=68719476736):BG x0=some x0:=by
 unfold BG cP
 rw [Ny (r:=[.new 3 .W x0]) rfl (rE (t:=3) (K:=.W) (xs:=x0) h)]
 rfl
theorem F_ {x0:List AD} {i j:Nat} (hi:i<=j) (hj:j<=x0.length):Bq x0 (i:Int) (j:Int)=some (x0.take i++x0.drop j):=by
 unfold Bq cP
 rw [Ny (r:=[.new 90 AI (x0.take i++x0.drop j)]) rfl (ACH (t:=90) (K:=AI) (xs:=x0) hi hj)]
 rfl
theorem Aq {x0:List AA} (h:x0.length<=68719476736):Ae x0=some x0:=by
 unfold Ae cP
 rw [Ny (r:=[.new 70 AG x0]) rfl (rE (t:=70) (K:=AG) (xs:=x0) h)]
 rfl
theorem gQ {x0 x1:ByteArray}:Mr x0 x1=some (Go.Lib.compareBytes x0.data.toList x1.data.toList):=by
 unfold Mr cP
 rw [Ny (r:=[.int .i64 (Go.Lib.compareBytes x0.data.toList x1.data.toList)]) rfl rfl]
 rfl
theorem Ka {x0:List AA} {i:Nat} {x2:List AA} (h:x0.length+x2.length<=68719476736) (hi:i<=x0.length) (hv:x2.length≠0):Cy x0 (i:Int) x2=some (x0.take i++x2++x0.drop i):=by
 unfold Cy cP
 rw [Ny (r:=[.new 70 AG (x0.take i++x2++x0.drop i)]) rfl (ACE (t:=70) (K:=AG) (xs:=x0) (vs:=x2) (i:=i) h hi hv)]
 rfl
theorem Qz {x0:List Int} {x1:Int}:E7 x0 x1=some (x0.filter fun x=>!(x==x1)):=by
 unfold E7 cP
 rw [Ny (fns:=fns) (prims:=prims) (f:=156) (args:=[.new 3 .W x0,.clo 157 .W x1]) (bs:=[]) (r:=[.new 3 .W (x0.filter fun x=>!(x==x1))]) rfl (AA7 (t:=3) (g:=157) (xs:=x0) (n:=x1))]
 rfl

def Jr (x0:Int) (x1:Bool) (x2:AL) (x3:List (List Int)) (x4:List AQ) (x5:List Int) (x6:List (List Int)) (x7:List Z) (x8:List AD) (x9:List AP) (x10:List Int) (x11:List (List Int)) (x12:List Z) (x13:List AD) (x14:List AP):Option Bool:=cG Jm (AK An) (AK An) kx ⟨[(11,.ptr 12 0),(12,.row 7),(15,.int .i64 x0),(142,.bool x1)],[.var (Ao.enc x2),.rows 31 (.own 3 .W) x3,.rows 51 AO x4,.dead,.dead,.dead,.dead,.rows 3 .W x5,.rows 31 (.own 3 .W) x6,.rows 74 Ai x7,.rows 90 Bb x8,.rows 88 Ag x9,.var [.row 8,.row 9,.row 10,.row 11],.dead,.dead,.dead,.dead,.rows 3 .W x10,.rows 31 (.own 3 .W) x11,.rows 74 Ai x12,.rows 90 Bb x13,.rows 88 Ag x14,.var [.row 18,.row 19,.row 20,.row 21]]⟩
def Js (x0:List Int) (x1:Bool) (x2:Int) (x3:Bool) (x4:AL) (x5:List (List Int)) (x6:List AQ) (x7:List Int) (x8:List (List Int)) (x9:List Z) (x10:List AD) (x11:List AP) (x12:List Int) (x13:List (List Int)) (x14:List Z) (x15:List AD) (x16:List AP):Option Bool:=cG Jn (AK An) (AK An) kx ⟨[(6,.ptr 0 0),(7,.lst .W x0),(8,.bool x1),(11,.ptr 12 0),(12,.row 7),(15,.int .i64 x2),(17,.ptr 22 0),(18,.row 17),(19,.bool x3)],[.var (Ao.enc x4),.rows 31 (.own 3 .W) x5,.rows 51 AO x6,.dead,.dead,.dead,.dead,.rows 3 .W x7,.rows 31 (.own 3 .W) x8,.rows 74 Ai x9,.rows 90 Bb x10,.rows 88 Ag x11,.var [.row 8,.row 9,.row 10,.row 11],.dead,.dead,.dead,.dead,.rows 3 .W x12,.rows 31 (.own 3 .W) x13,.rows 74 Ai x14,.rows 90 Bb x15,.rows 88 Ag x16,.var [.row 18,.row 19,.row 20,.row 21]]⟩
def Jt (x0:List (List Int)) (x1:List AQ) (x2:List Int) (x3 x4:Bool) (x5:AL) (x6:List (List Int)) (x7:List AQ) (x8:List Int) (x9:List (List Int)) (x10:List Z) (x11:List AD) (x12:List AP):Option Bool:=cG Jo (AK An) (AK An) kx ⟨[(0,.lst .S x0),(1,.lst AO x1),(6,.ptr 0 0),(7,.lst .W x2),(8,.bool x3),(11,.ptr 12 0),(12,.row 7),(99,.bool x4)],[.var (Ao.enc x5),.rows 31 (.own 3 .W) x6,.rows 51 AO x7,.dead,.dead,.dead,.dead,.rows 3 .W x8,.rows 31 (.own 3 .W) x9,.rows 74 Ai x10,.rows 90 Bb x11,.rows 88 Ag x12,.var [.row 8,.row 9,.row 10,.row 11]]⟩
def Ju (x0:List (List Int)) (x1:List AQ) (x2:List Int) (x3 x4 x5:Bool) (x6:AL) (x7:List (List Int)) (x8:List AQ) (x9:List Int) (x10:List (List Int)) (x11:List Z) (x12:List AD) (x13:List AP):Option Bool:=cG Jp (AK An) (AK An) kx ⟨[(0,.lst .S x0),(1,.lst AO x1),(6,.ptr 0 0),(7,.lst .W x2),(8,.bool x3),(9,.row 1),(10,.row 2),(11,.ptr 12 0),(12,.row 7),(13,.bool x4),(64,.bool x5)],[.var (Ao.enc x6),.rows 31 (.own 3 .W) x7,.rows 51 AO x8,.dead,.dead,.dead,.dead,.rows 3 .W x9,.rows 31 (.own 3 .W) x10,.rows 74 Ai x11,.rows 90 Bb x12,.rows 88 Ag x13,.var [.row 8,.row 9,.row 10,.row 11]]⟩
def Jv (x0:List (List Int)) (x1:List AQ) (x2:List Int) (x3:Bool) (x4:AL):Option Bool:=cG Jq (AK An) (AK An) kx ⟨[(0,.lst .S x0),(1,.lst AO x1),(6,.ptr 0 0),(7,.lst .W x2),(8,.bool x3)],[.var (Ao.enc x4)]⟩
def Jw (x0:Int) (x1:Bool) (x2:AL) (x3:List (List Int)) (x4:List AQ) (x5:List Int) (x6:List (List Int)) (x7:List Z) (x8:List AD) (x9:List AP) (x10:List Int) (x11:List (List Int)) (x12:List Z) (x13:List AD) (x14:List AP):Option Bool:=((JY (x6,x7,x8,x9) 1).bind fun y28=>(if (decide (y28<0))=true then (some false) else ((Ck x5 y28).bind fun y29=>(if (decide (y29<0))=true then (some false) else (if (y29 != x0)=true then (some false) else (some true))))))
def Jx (x0:List Int) (x1:Bool) (x2:Int) (x3:Bool) (x4:AL) (x5:List (List Int)) (x6:List AQ) (x7:List Int) (x8:List (List Int)) (x9:List Z) (x10:List AD) (x11:List AP) (x12:List Int) (x13:List (List Int)) (x14:List Z) (x15:List AD) (x16:List AP):Option Bool:=((I2 (x13,x14,x15,x16) x4).bind fun y26=>(if (!y26)=false then ((FQ x12 x0).bind fun y27=>(if (!y27)=false then (if (true != MA .bool x3 x1)=true then (some false) else (Jr x2 (true != MA .bool x3 x1) x4 x5 x6 x7 x8 x9 x10 x11 x12 x13 x14 x15 x16)) else (some false))) else (some false)))
def Jy (x0:List (List Int)) (x1:List AQ) (x2:List Int) (x3 x4:Bool) (x5:AL) (x6:List (List Int)) (x7:List AQ) (x8:List Int) (x9:List (List Int)) (x10:List Z) (x11:List AD) (x12:List AP):Option Bool:=((N6 1 x9 x10 x11 x12).bind fun y19=>((C4 y19.1 x8).bind fun y20=>((JY y19.2 1).bind fun y21=>(if (decide (y21<0))=true then (some false) else ((Ck y20.2 y21).bind fun y22=>(if (decide (y22<0))=true then (some false) else (if (y22 != y20.1)=true then (some false) else ((I1 x0).bind fun y23=>((IB x1).bind fun y24=>((Kw y23 y24).bind fun y25=>(Js x2 x3 y20.1 y25.2.2 x5 x6 x7 y20.2 y19.2.1 y19.2.2.1 y19.2.2.2.1 y19.2.2.2.2 y25.2.1 y25.1.1 y25.1.2.1 y25.1.2.2.1 y25.1.2.2.2)))))))))))
def Jz (x0:List (List Int)) (x1:List AQ) (x2:List Int) (x3 x4 x5:Bool) (x6:AL) (x7:List (List Int)) (x8:List AQ) (x9:List Int) (x10:List (List Int)) (x11:List Z) (x12:List AD) (x13:List AP):Option Bool:=((I1 x0).bind fun y11=>((Mg x7 y11).bind fun y12=>(if (!y12)=true then (some false) else ((IB x1).bind fun y13=>((Pc x8 y13).bind fun y14=>(if (!y14)=true then (some false) else ((JX 1 x7).bind fun y15=>((Mh y15.1 x8).bind fun y16=>(if (decide (y16.1<0))=false then ((I2 (x10,x11,x12,x13) x6).bind fun y17=>(if (!y17)=false then ((FQ x9 x2).bind fun y18=>(if (!y18)=false then (if (true != MA .bool x4 x3)=true then (some false) else (Jt x0 x1 x2 x3 (true != MA .bool x4 x3) x6 y15.2 y16.2 x9 x10 x11 x12 x13)) else (some false))) else (some false))) else (some false))))))))))
def J6 (x0:List (List Int)) (x1:List AQ) (x2:List Int) (x3:Bool) (x4:AL):Option Bool:=((OE x0).bind fun y6=>((Mq x1).bind fun y7=>((Kw y6 y7).bind fun y8=>((I2 y8.1 x4).bind fun y9=>(if (!y9)=false then ((FQ y8.2.1 x2).bind fun y10=>(if (!y10)=false then (if (true != MA .bool y8.2.2 x3)=true then (some false) else (Ju x0 x1 x2 x3 y8.2.2 (true != MA .bool y8.2.2 x3) x4 y6 y7 y8.2.1 y8.1.1 y8.1.2.1 y8.1.2.2.1 y8.1.2.2.2)) else (some false))) else (some false))))))
def Ms (x0:List (List Int)) (x1:List AQ):Option Bool:=((Mf x0 1048576).bind fun y1=>(if (decide (y1<0))=true then (some true) else ((IA x1 y1).bind fun y2=>(if (decide (y2<0))=true then (some true) else ((I1 x0).bind fun y3=>((IB x1).bind fun y4=>((Kv y3 y4).bind fun y5=>(Jv x0 x1 y5.2.1 y5.2.2 y5.1))))))))
theorem SY:ADA Jw Jr:=jS (by kernel_rfl)
theorem SZ:ADn Jx Js:=jS (by kernel_rfl)
theorem Sa:AC_ Jy Jt:=jS (by kernel_rfl)
theorem Sb:ADa Jz Ju:=jS (by kernel_rfl)
theorem Sc:xw J6 Jv:=jS (by kernel_rfl)
theorem Wo:JF Ms Me:=cT An rfl ⟨rfl,rfl⟩ (by kernel_rfl)
def kV:=cG Uz (AK EK) (AK EK) kx
def kW:=kE 0 [] [1] 0 kV kx
def gR:St->Option (RT (BI.outs EK)):=lG Uy [] [0,1,5] 0 (AK EK) kW
def GX (x0:List (List Int)) (x1 x2:Int):Option Int:=gR ⟨[(0,.lst .S x0),(1,.int .i64 x1),(5,.int .i64 x2)],[]⟩
def Ig (x0:List (List Int)) (x1 x2:Int):Option Int:=(if (decide (x2<(x0.length:Int)))=true then (if 0<=x2 then (if x2<(x0.length:Int) then ((Oc (x0.getD x2.toNat ([]:List Int)) x1).bind fun y1=>(if (decide (y1<0))=true then (some (-1:Int)) else (GX x0 y1 (i64.wrap (x2+1))))) else none) else none) else (some x1))
def Rv (x0:List (List Int)) (x1:Int):Option Int:=(if (decide ((i64.wrap (x1-(x0.length:Int)))<0))=true then (some (-1:Int)) else (GX x0 (i64.wrap (x1-(x0.length:Int))) 0))
theorem Ih:Jl Ig GX:=lS (by kernel_rfl)
theorem Rw:JF Rv Mf:=cT EK rfl ⟨rfl,rfl⟩ (by kernel_rfl)
def gS:=cG So (AK Di) (AK Di) kx
def gT:=kE 0 [] [1] 0 gS kx
def dX:St->Option (RT (BI.outs Di)):=lG Sn [] [0,1,5] 0 (AK Di) gT
def Hm (x0:List AQ) (x1 x2:Int):Option Int:=dX ⟨[(0,.lst AO x0),(1,.int .i64 x1),(5,.int .i64 x2)],[]⟩
def dY (x0:List AQ) (x1 x2:Int):Option Int:=(if (decide (x2<(x0.length:Int)))=true then (if 0<=x2 then (if x2<(x0.length:Int) then ((Rm (x0.getD x2.toNat (0,0,0,0,U,U)) x1).bind fun y1=>(if (decide (y1<0))=true then (some (-1:Int)) else (Hm x0 y1 (i64.wrap (x2+1))))) else none) else none) else (some x1))
def Xp (x0:List AQ) (x1:Int):Option Int:=(if (decide ((i64.wrap (x1-(x0.length:Int)))<0))=true then (some (-1:Int)) else (Hm x0 (i64.wrap (x1-(x0.length:Int))) 0))
theorem dZ:Jl dY Hm:=lS (by kernel_rfl)
theorem Xq:JF Xp IA:=cT Di rfl ⟨rfl,rfl⟩ (by kernel_rfl)
def gU:=cG RM (AK BU) (AK BU) kx
def gV:=kE 2 [(10,2)] [4,7,10] 3 gU kx
def da:St->Option (RT (BI.outs BU)):=lG Sr [(10,2)] [1,4,7,10,11] 3 (AK BU) gV
def gW:=cG LB (AK BU) (AK BU) kx
def Tb:=kE 0 [] [1,4,7,8] 2 gW kx
def Rx:St->Option (RT (BI.outs BU)):=lG Sq [] [1,4,7,8,9] 2 (AK BU) Tb
def gX:=kB [] [1,4,7,8,9] 2 Rx
def Ry (x0:List AQ) (x1:Bool) (x2:Int) (x3:Bool) (x4 x5:AL):Option (AL×List Int×Bool):=cG Sp gX (AK BU) Tb ⟨[(1,.lst AO x0),(4,.ptr 0 0),(7,.ptr 1 0),(8,.bool x1),(9,.int .i64 x2),(23,.bool x3)],[.var (Ao.enc x4),.var (Ao.enc x5)]⟩
def Fk (x0:List AQ) (x1:Int) (x2 x3:AL) (x4:List Int):Option (AL×List Int×Bool):=da ⟨[(1,.lst AO x0),(4,.ptr 0 0),(7,.ptr 1 0),(10,.row 2),(11,.int .i64 x1)],[.var (Ao.enc x2),.var (Ao.enc x3),.rows 3 .W x4]⟩
def Fl (x0:List AQ) (x1:Bool) (x2 x3:AL):Option (AL×List Int×Bool):=cG LB (AK BU) (AK BU) kx ⟨[(1,.lst AO x0),(4,.ptr 0 0),(7,.ptr 1 0),(8,.bool x1)],[.var (Ao.enc x2),.var (Ao.enc x3)]⟩
def Ch (x0:List AQ) (x1:Bool) (x2:Int) (x3 x4:AL):Option (AL×List Int×Bool):=Rx ⟨[(1,.lst AO x0),(4,.ptr 0 0),(7,.ptr 1 0),(8,.bool x1),(9,.int .i64 x2)],[.var (Ao.enc x3),.var (Ao.enc x4)]⟩
def Hn (x0:List AQ) (x1:Bool) (x2:Int) (x3:Bool) (x4 x5:AL):Option (AL×List Int×Bool):=(if (decide ((x0.length:Int)<=70))=true then (if 0<=x2 then (if x2<(x0.length:Int) then ((Rn (x0.getD x2.toNat (0,0,0,0,U,U))).bind fun y2=>(Ch x0 y2 (i64.wrap (x2+1)) x4 x5)) else none) else none) else (Ch x0 false (i64.wrap (x2+1)) x4 x5))
def LO (x0:List AQ) (x1:Int) (x2 x3:AL) (x4:List Int):Option (AL×List Int×Bool):=(if (decide (x1<(x0.length:Int)))=true then (if 0<=x1 then (if x1<(x0.length:Int) then ((Wi x1 (x0.getD x1.toNat (0,0,0,0,U,U)) x3).bind fun y3=>(if x4.length+([y3.1]:List Int).length<=68719476736 then (Fk x0 (i64.wrap (x1+1)) x2 y3.2 (x4++([y3.1]:List Int))) else none)) else none) else none) else ((Ro x3).bind fun y4=>(some (y4,x4,true))))
def LP (x0:List AQ) (x1:Bool) (x2 x3:AL):Option (AL×List Int×Bool):=(if (!x1)=true then (some ((([]:List (List Int)),([]:List Z),([]:List AD),([]:List AP)),([]:List Int),false)) else (Fk x0 0 x2 x3 ([]:List Int)))
def D8 (x0:List AQ) (x1:Bool) (x2:Int) (x3 x4:AL):Option (AL×List Int×Bool):=(if (decide (x2<(x0.length:Int)))=true then (if x1=true then (Ry x0 x1 x2 x1 x3 x4) else (Fl x0 x1 x3 x4)) else (Fl x0 x1 x3 x4))
def Pk (x0:List (List Int)) (x1:List AQ):Option (AL×List Int×Bool):=((Kx x0).bind fun y1=>(Ch x1 y1.2 0 (([]:List (List Int)),([]:List Z),([]:List AD),([]:List AP)) y1.1))
theorem LQ:zr Hn Ry:=jS (by kernel_rfl)
theorem Rz:xw LO Fk:=lS (by kernel_rfl)
theorem R0:so LP Fl:=jS (by kernel_rfl)
theorem Fm:xw D8 Ch:=lS (by kernel_rfl)
theorem Xr:JF Pk Kv:=cT BU rfl ⟨rfl,rfl⟩ (by kernel_rfl)
def kX:=cG U1 (AK EL) (AK EL) kx
def kY:=kE 0 [(3,0)] [3] 1 kX kx
def gY:St->Option (RT (BI.outs EL)):=lG U0 [(3,0)] [0,3,4] 1 (AK EL) kY
def Ii (x0:List (List Int)) (x1:Int) (x2:List (List Int)):Option (List (List Int)):=gY ⟨[(0,.lst .S x0),(3,.row 0),(4,.int .i64 x1)],[.rows 31 .S x2]⟩
def gZ (x0:List (List Int)) (x1:Int) (x2:List (List Int)):Option (List (List Int)):=(if (decide (x1<(x0.length:Int)))=true then (if 0<=x1 then (if x1<(x0.length:Int) then ((Od (x0.getD x1.toNat ([]:List Int))).bind fun y1=>(if 0<=x1 then (if x1<(x2.length:Int) then (let z2:List (List Int):=x2.set x1.toNat y1; (Ii x0 (i64.wrap (x1+1)) z2)) else none) else none)) else none) else none) else (some x2))
def rG (x0:List (List Int)):Option (List (List Int)):=(if 0<=(x0.length:Int) then (if (x0.length:Int)<=68719476736 then (Ii x0 0 (List.replicate (x0.length:Int).toNat ([]:List Int))) else none) else none)
theorem ga:Jl gZ Ii:=lS (by kernel_rfl)
theorem rH:SU rG I1:=cT EL rfl ⟨rfl,rfl⟩ (by kernel_rfl)
def gd:=cG Su (AK Dj) (AK Dj) kx
def ge:=kE 0 [(3,0)] [3] 1 gd kx
def db:St->Option (RT (BI.outs Dj)):=lG Ss [(3,0)] [0,3,4] 1 (AK Dj) ge
def Ho (x0:List AQ) (x1:Int) (x2:List AQ):Option (List AQ):=db ⟨[(0,.lst AO x0),(3,.row 0),(4,.int .i64 x1)],[.rows 51 AO x2]⟩
def dd (x0:List AQ) (x1:Int) (x2:List AQ):Option (List AQ):=(if (decide (x1<(x0.length:Int)))=true then (if 0<=x1 then (if x1<(x0.length:Int) then ((Mi (x0.getD x1.toNat (0,0,0,0,U,U))).bind fun y1=>(if 0<=x1 then (if x1<(x2.length:Int) then (let z2:List AQ:=x2.set x1.toNat y1; (Ho x0 (i64.wrap (x1+1)) z2)) else none) else none)) else none) else none) else (some x2))
def nw (x0:List AQ):Option (List AQ):=(if 0<=(x0.length:Int) then (if (x0.length:Int)<=68719476736 then (Ho x0 0 (List.replicate (x0.length:Int).toNat (0,0,0,0,U,U))) else none) else none)
theorem de:Jl dd Ho:=lS (by kernel_rfl)
theorem nx:SU nw IB:=cT Dj rfl ⟨rfl,rfl⟩ (by kernel_rfl)
def gf:=cG RO (AK BO) (AK BO) kx
def gh:=kE 2 [(11,13)] [4,7,11] 14 gf kx
def df:St->Option (RT (BI.outs BO)):=lG RN [(11,13)] [4,7,11,39,40,41] 14 (AK BO) gh
def gj:=cG LC (AK BO) (AK BO) kx
def gm:=kE 0 [] [1,4,7] 13 gj kx
def dg:St->Option (RT (BI.outs BO)):=lG Sv [] [1,4,7,28,29,30] 13 (AK BO) gm
def Fn (x0:List AQ) (x1 x2:Int) (x3:List (List Int)) (x4:List Z) (x5:List AD) (x6:List AP) (x7:List Int) (x8:List Z) (x9:List AD) (x10:List AP) (x11:List (List Int)) (x12:List Int):Option (AL×List Int×Bool):=df ⟨[(4,.ptr 4 0),(7,.ptr 12 0),(11,.row 13),(39,.lst AO x0),(40,.int .i64 x1),(41,.int .i64 x2)],[.rows 31 (.own 3 .W) x3,.rows 74 Ai x4,.rows 90 Bb x5,.rows 88 Ag x6,.var [.row 0,.row 1,.row 2,.row 3],.rows 3 .W x7,.dead,.dead,.dead,.rows 74 AB x8,.rows 90 AI x9,.rows 88 Ag x10,.var [.lst .S x11,.row 9,.row 10,.row 11],.rows 3 .W x12]⟩
def R1 (x0:List AQ) (x1:List (List Int)) (x2:List Z) (x3:List AD) (x4:List AP) (x5:List Int) (x6:List Z) (x7:List AD) (x8:List AP) (x9:List (List Int)):Option (AL×List Int×Bool):=cG LC (AK BO) (AK BO) kx ⟨[(1,.lst AO x0),(4,.ptr 4 0),(7,.ptr 12 0)],[.rows 31 (.own 3 .W) x1,.rows 74 Ai x2,.rows 90 Bb x3,.rows 88 Ag x4,.var [.row 0,.row 1,.row 2,.row 3],.rows 3 .W x5,.dead,.dead,.dead,.rows 74 AB x6,.rows 90 AI x7,.rows 88 Ag x8,.var [.lst .S x9,.row 9,.row 10,.row 11]]⟩
def D9 (x0 x1:List AQ) (x2 x3:Int) (x4:List (List Int)) (x5:List Z) (x6:List AD) (x7:List AP) (x8:List Int) (x9:List Z) (x10:List AD) (x11:List AP) (x12:List (List Int)):Option (AL×List Int×Bool):=dg ⟨[(1,.lst AO x0),(4,.ptr 4 0),(7,.ptr 12 0),(28,.lst AO x1),(29,.int .i64 x2),(30,.int .i64 x3)],[.rows 31 (.own 3 .W) x4,.rows 74 Ai x5,.rows 90 Bb x6,.rows 88 Ag x7,.var [.row 0,.row 1,.row 2,.row 3],.rows 3 .W x8,.dead,.dead,.dead,.rows 74 AB x9,.rows 90 AI x10,.rows 88 Ag x11,.var [.lst .S x12,.row 9,.row 10,.row 11]]⟩
def R2 (x0:List AQ) (x1:Bool) (x2:List (List Int)) (x3:List Z) (x4:List AD) (x5:List AP) (x6:List Int) (x7:List Z) (x8:List AD) (x9:List AP) (x10:List (List Int)):Option (AL×List Int×Bool):=cG RP (AK BO) (AK BO) kx ⟨[(1,.lst AO x0),(4,.ptr 4 0),(7,.ptr 12 0),(26,.bool x1)],[.rows 31 (.own 3 .W) x2,.rows 74 Ai x3,.rows 90 Bb x4,.rows 88 Ag x5,.var [.row 0,.row 1,.row 2,.row 3],.rows 3 .W x6,.dead,.dead,.dead,.rows 74 AB x7,.rows 90 AI x8,.rows 88 Ag x9,.var [.lst .S x10,.row 9,.row 10,.row 11]]⟩
def LR (x0:List AQ) (x1 x2:Int) (x3:List (List Int)) (x4:List Z) (x5:List AD) (x6:List AP) (x7:List Int) (x8:List Z) (x9:List AD) (x10:List AP) (x11:List (List Int)) (x12:List Int):Option (AL×List Int×Bool):=(if (decide (x2<x1))=true then (if 0<=x2 then (if x2<(x0.length:Int) then ((Hi (x0.getD x2.toNat (0,0,0,0,U,U)) x2 (x11,x8,x9,x10)).bind fun y3=>((UM y3.1).bind fun y4=>(if x12.length+([y4]:List Int).length<=68719476736 then (Fn x0 x1 (i64.wrap (x2+1)) x3 x4 x5 x6 x7 y3.2.2.1 y3.2.2.2.1 y3.2.2.2.2 y3.2.1 (x12++([y4]:List Int))) else none))) else none) else none) else ((JZ (x11,x8,x9,x10)).bind fun y5=>(some (y5,x12,true))))
def R3 (x0:List AQ) (x1:List (List Int)) (x2:List Z) (x3:List AD) (x4:List AP) (x5:List Int) (x6:List Z) (x7:List AD) (x8:List AP) (x9:List (List Int)):Option (AL×List Int×Bool):=(Fn x0 (x0.length:Int) 0 x1 x2 x3 x4 x5 x6 x7 x8 x9 ([]:List Int))
def Hp (x0 x1:List AQ) (x2 x3:Int) (x4:List (List Int)) (x5:List Z) (x6:List AD) (x7:List AP) (x8:List Int) (x9:List Z) (x10:List AD) (x11:List AP) (x12:List (List Int)):Option (AL×List Int×Bool):=(if (decide (x3<x2))=true then (if 0<=x3 then (if x3<(x1.length:Int) then ((Rp (x1.getD x3.toNat (0,0,0,0,U,U))).bind fun y2=>(if (!y2)=true then (some ((([]:List (List Int)),([]:List Z),([]:List AD),([]:List AP)),([]:List Int),false)) else (D9 x0 x1 x2 (i64.wrap (x3+1)) x4 x5 x6 x7 x8 x9 x10 x11 x12))) else none) else none) else (R1 x0 x4 x5 x6 x7 x8 x9 x10 x11 x12))
def R4 (x0:List AQ) (x1:Bool) (x2:List (List Int)) (x3:List Z) (x4:List AD) (x5:List AP) (x6:List Int) (x7:List Z) (x8:List AD) (x9:List AP) (x10:List (List Int)):Option (AL×List Int×Bool):=(D9 x0 x0 (x0.length:Int) 0 x2 x3 x4 x5 x6 x7 x8 x9 x10)
def Xs (x0:List (List Int)) (x1:List AQ):Option (AL×List Int×Bool):=((Ky x0).bind fun y1=>(if (!y1.2)=false then (if (decide ((x1.length:Int)>70))=true then (some ((([]:List (List Int)),([]:List Z),([]:List AD),([]:List AP)),([]:List Int),false)) else (R2 x1 (decide ((x1.length:Int)>70)) ([]:List (List Int)) ([]:List Z) ([]:List AD) ([]:List AP) ([]:List Int) y1.1.2.1 y1.1.2.2.1 y1.1.2.2.2 y1.1.1)) else (some ((([]:List (List Int)),([]:List Z),([]:List AD),([]:List AP)),([]:List Int),false))))
theorem R5:AC_ LR Fn:=lS (by kernel_rfl)
theorem dh:zt R3 R1:=jS (by kernel_rfl)
theorem LT:AC_ Hp D9:=lS (by kernel_rfl)
theorem di:ADZ R4 R2:=jS (by kernel_rfl)
theorem ny:JF Xs Kw:=cT BO rfl ⟨rfl,rfl⟩ (by kernel_rfl)
def Zb (x0 x1:AL):Option Bool:=((Mg x0.1 x1.1).bind fun y1=>(if (!y1)=true then (some false) else ((N7 x0.2.1 x1.2.1).bind fun y2=>(if (!y2)=true then (some false) else ((UN x0.2.2.1 x1.2.2.1).bind fun y3=>(if (!y3)=true then (some false) else ((Rq x0.2.2.2 x1.2.2.2).bind fun y4=>(if (!y4)=true then (some false) else (some true)))))))))
theorem rI:JF Zb I2:=cT MO rfl ⟨rfl,rfl⟩ (by kernel_rfl)
def nz:=cG W_ (AK FB) (AK FB) kx
def n5:=kE 0 [] [] 0 nz kx
def kZ:St->Option (RT (BI.outs FB)):=lG W9 [] [0,1,5] 0 (AK FB) n5
def Jb (x0 x1:List Int) (x2:Int):Option Bool:=kZ ⟨[(0,.lst .W x0),(1,.lst .W x1),(5,.int .i64 x2)],[]⟩
def ka (x0 x1:List Int) (x2:Int):Option Bool:=(if (decide (x2<(x0.length:Int)))=true then (if 0<=x2 then (if x2<(x0.length:Int) then (if 0<=x2 then (if x2<(x1.length:Int) then (if ((x0.getD x2.toNat 0) != (x1.getD x2.toNat 0))=true then (some false) else (Jb x0 x1 (i64.wrap (x2+1)))) else none) else none) else none) else none) else (some true))
def tI (x0 x1:List Int):Option Bool:=(if ((x0.length:Int) != (x1.length:Int))=true then (some false) else (Jb x0 x1 0))
theorem kf:Jl ka Jb:=lS (by kernel_rfl)
theorem tJ:JF tI FQ:=cT FB rfl ⟨rfl,rfl⟩ (by kernel_rfl)
def kh:=cG U3 (AK EM) (AK EM) kx
def ki:=kE 0 [] [] 0 kh kx
def gn:St->Option (RT (BI.outs EM)):=lG U2 [] [0,1,5] 0 (AK EM) ki
def Ij (x0 x1:List (List Int)) (x2:Int):Option Bool:=gn ⟨[(0,.lst .S x0),(1,.lst .S x1),(5,.int .i64 x2)],[]⟩
def gp (x0 x1:List (List Int)) (x2:Int):Option Bool:=(if (decide (x2<(x0.length:Int)))=true then (if 0<=x2 then (if x2<(x0.length:Int) then (if 0<=x2 then (if x2<(x1.length:Int) then ((FQ (x0.getD x2.toNat ([]:List Int)) (x1.getD x2.toNat ([]:List Int))).bind fun y1=>(if (!y1)=true then (some false) else (Ij x0 x1 (i64.wrap (x2+1))))) else none) else none) else none) else none) else (some true))
def rJ (x0 x1:List (List Int)):Option Bool:=(if ((x0.length:Int) != (x1.length:Int))=true then (some false) else (Ij x0 x1 0))
theorem gq:Jl gp Ij:=lS (by kernel_rfl)
theorem rK:JF rJ Mg:=cT EM rfl ⟨rfl,rfl⟩ (by kernel_rfl)
def gt:=cG Sx (AK Dk) (AK Dk) kx
def gu:=kE 0 [] [] 0 gt kx
def dj:St->Option (RT (BI.outs Dk)):=lG Sw [] [0,1,5] 0 (AK Dk) gu
def Hq (x0 x1:List AQ) (x2:Int):Option Bool:=dj ⟨[(0,.lst AO x0),(1,.lst AO x1),(5,.int .i64 x2)],[]⟩
def dl (x0 x1:List AQ) (x2:Int):Option Bool:=(if (decide (x2<(x0.length:Int)))=true then (if 0<=x2 then (if x2<(x0.length:Int) then (if 0<=x2 then (if x2<(x1.length:Int) then ((Rr (x0.getD x2.toNat (0,0,0,0,U,U)) (x1.getD x2.toNat (0,0,0,0,U,U))).bind fun y1=>(if (!y1)=true then (some false) else (Hq x0 x1 (i64.wrap (x2+1))))) else none) else none) else none) else none) else (some true))
def n6 (x0 x1:List AQ):Option Bool:=(if ((x0.length:Int) != (x1.length:Int))=true then (some false) else (Hq x0 x1 0))
theorem dn:Jl dl Hq:=lS (by kernel_rfl)
theorem n7:JF n6 Pc:=cT Dk rfl ⟨rfl,rfl⟩ (by kernel_rfl)
def dp:=cG RR (AK DA) (AK DA) kx
def dq:=kE 0 [] [1] 1 dp kx
def bP:St->Option (RT (BI.outs DA)):=lG RQ [(0,0)] [0,1,5] 1 (AK DA) dq
def Gu (x0 x1:Int) (x2:List (List Int)):Option (Int×List (List Int)):=bP ⟨[(0,.row 0),(1,.int .i64 x0),(5,.int .i64 x1)],[.mrow 31 (.own 3 .W) x2]⟩
def KF (x0 x1:Int) (x2:List (List Int)):Option (Int×List (List Int)):=(if (decide (x1<(x2.length:Int)))=true then (if 0<=x1 then (if x1<(x2.length:Int) then ((C4 x0 (x2.getD x1.toNat ([]:List Int))).bind fun y1=>(let z2:List (List Int):=x2.set x1.toNat y1.2; (Gu y1.1 (i64.wrap (x1+1)) z2))) else none) else none) else (some (x0,x2)))
def kj (x1:Int) (b0:List (List Int)):Option (Int×List (List Int)):=(Gu x1 0 b0)
theorem QK:Jl KF Gu:=lS (by kernel_rfl)
theorem km:JF kj JX:=cT DA rfl ⟨rfl,rfl⟩ (by kernel_rfl)
def bQ:=cG Oz (AK Ct) (AK Ct) kx
def bR:=kE 0 [] [1] 1 bQ kx
def Zc:St->Option (RT (BI.outs Ct)):=lG Oy [(0,0)] [0,1,5] 1 (AK Ct) bR
def DO (x0 x1:Int) (x2:List AQ):Option (Int×List AQ):=Zc ⟨[(0,.row 0),(1,.int .i64 x0),(5,.int .i64 x1)],[.mrow 51 AO x2]⟩
def I7 (x0 x1:Int) (x2:List AQ):Option (Int×List AQ):=(if (decide (x1<(x2.length:Int)))=true then (if 0<=x1 then (if x1<(x2.length:Int) then (let z1:List AQ:=x2.set x1.toNat (x0,(x2.getD x1.toNat (0,0,0,0,U,U)).2); (if 0<=x1 then (if x1<(z1.length:Int) then (let z2:List AQ:=z1.set x1.toNat ((z1.getD x1.toNat (0,0,0,0,U,U)).1,(i64.wrap (x0+1)),((z1.getD x1.toNat (0,0,0,0,U,U)).2).2); (if 0<=x1 then (if x1<(z2.length:Int) then (let z3:List AQ:=z2.set x1.toNat ((z2.getD x1.toNat (0,0,0,0,U,U)).1,((z2.getD x1.toNat (0,0,0,0,U,U)).2).1,(i64.wrap ((i64.wrap (x0+1))+1)),(((z2.getD x1.toNat (0,0,0,0,U,U)).2).2).2); (if 0<=x1 then (if x1<(z3.length:Int) then (let z4:List AQ:=z3.set x1.toNat ((z3.getD x1.toNat (0,0,0,0,U,U)).1,((z3.getD x1.toNat (0,0,0,0,U,U)).2).1,(((z3.getD x1.toNat (0,0,0,0,U,U)).2).2).1,(i64.wrap ((i64.wrap ((i64.wrap (x0+1))+1))+1)),((((z3.getD x1.toNat (0,0,0,0,U,U)).2).2).2).2); ((Aw (i64.wrap ((i64.wrap ((i64.wrap ((i64.wrap (x0+1))+1))+1))+1))).bind fun y5=>(if 0<=x1 then (if x1<(z4.length:Int) then (let z6:List AQ:=z4.set x1.toNat ((z4.getD x1.toNat (0,0,0,0,U,U)).1,((z4.getD x1.toNat (0,0,0,0,U,U)).2).1,(((z4.getD x1.toNat (0,0,0,0,U,U)).2).2).1,((((z4.getD x1.toNat (0,0,0,0,U,U)).2).2).2).1,y5,(((((z4.getD x1.toNat (0,0,0,0,U,U)).2).2).2).2).2); ((Aw (i64.wrap ((i64.wrap ((i64.wrap ((i64.wrap ((i64.wrap (x0+1))+1))+1))+1))+1))).bind fun y7=>(if 0<=x1 then (if x1<(z6.length:Int) then (let z8:List AQ:=z6.set x1.toNat ((z6.getD x1.toNat (0,0,0,0,U,U)).1,((z6.getD x1.toNat (0,0,0,0,U,U)).2).1,(((z6.getD x1.toNat (0,0,0,0,U,U)).2).2).1,((((z6.getD x1.toNat (0,0,0,0,U,U)).2).2).2).1,(((((z6.getD x1.toNat (0,0,0,0,U,U)).2).2).2).2).1,y7); (DO (i64.wrap ((i64.wrap ((i64.wrap ((i64.wrap ((i64.wrap ((i64.wrap (x0+1))+1))+1))+1))+1))+1)) (i64.wrap (x1+1)) z8)) else none) else none))) else none) else none))) else none) else none)) else none) else none)) else none) else none)) else none) else none) else (some (x0,x2)))
def Tc (x1:Int) (b0:List AQ):Option (Int×List AQ):=(DO x1 0 b0)
theorem PA:Jl I7 DO:=lS (by kernel_rfl)
theorem gw:JF Tc Mh:=cT Ct rfl ⟨rfl,rfl⟩ (by kernel_rfl)
def Vb (x1:Int) (b0:List (List Int)) (b1:List Z) (b2:List AD) (b3:List AP):Option (Int×List (List Int)×List Z×List AD×List AP):=((JX x1 b0).bind fun y1=>((LD y1.1 b1).bind fun y2=>((Pd y2.1 b2).bind fun y3=>((N8 y3.1 b3).bind fun y4=>(some (y4.1,y1.2,y2.2,y3.2,y4.2))))))
theorem ko:xw Vb N6:=cT JP rfl ⟨rfl,rfl⟩ (by kernel_rfl)
def gx:=cG Sz (AK Dl) (AK Dl) kx
def gy:=kE 0 [] [1] 1 gx kx
def dr:St->Option (RT (BI.outs Dl)):=lG Sy [(0,0)] [0,1,5] 1 (AK Dl) gy
def Hr (x0 x1:Int) (x2:List Int):Option (Int×List Int):=dr ⟨[(0,.row 0),(1,.int .i64 x0),(5,.int .i64 x1)],[.mrow 3 .W x2]⟩
def LU (x0 x1:Int) (x2:List Int):Option (Int×List Int):=(if (decide (x1<(x2.length:Int)))=true then (if 0<=x1 then (if x1<(x2.length:Int) then (let z1:List Int:=x2.set x1.toNat x0; (Hr (i64.wrap (x0+1)) (i64.wrap (x1+1)) z1)) else none) else none) else (some (x0,x2)))
def n8 (x1:Int) (b0:List Int):Option (Int×List Int):=(Hr x1 0 b0)
theorem R6:Jl LU Hr:=lS (by kernel_rfl)
theorem n9:JF n8 C4:=cT Dl rfl ⟨rfl,rfl⟩ (by kernel_rfl)
def Vc (x0:AL) (x1:Int):Option Int:=((N9 x0.1 x1).bind fun y1=>(if (decide (y1<0))=true then (some (-1:Int)) else ((LE x0.2.1 y1).bind fun y2=>(if (decide (y2<0))=true then (some (-1:Int)) else ((Pe x0.2.2.1 y2).bind fun y3=>(if (decide (y3<0))=true then (some (-1:Int)) else ((N_ x0.2.2.2 y3).bind fun y4=>(if (decide (y4<0))=true then (some (-1:Int)) else (some y4)))))))))
theorem kp:JF Vc JY:=cT JQ rfl ⟨rfl,rfl⟩ (by kernel_rfl)
def gz:=cG S3 (AK Dm) (AK Dm) kx
def g7:=kE 0 [] [1] 0 gz kx
def dt:St->Option (RT (BI.outs Dm)):=lG S0 [] [0,1,5] 0 (AK Dm) g7
def Hs (x0:List Int) (x1 x2:Int):Option Int:=dt ⟨[(0,.lst .W x0),(1,.int .i64 x1),(5,.int .i64 x2)],[]⟩
def LV (x0:List Int) (x1 x2:Int):Option Int:=(if (decide (x2<(x0.length:Int)))=true then (if 0<=x2 then (if x2<(x0.length:Int) then (if ((x0.getD x2.toNat 0) != x1)=true then (some (-1:Int)) else (Hs x0 (i64.wrap (x1+1)) (i64.wrap (x2+1)))) else none) else none) else (some x1))
def n_ (x0:List Int) (x1:Int):Option Int:=(Hs x0 x1 0)
theorem R7:Jl LV Hs:=lS (by kernel_rfl)
theorem oA:JF n_ Ck:=cT Dm rfl ⟨rfl,rfl⟩ (by kernel_rfl)
def US (x0:List Int) (x1:Int):Option Int:=(if (decide ((i64.wrap (x1-(x0.length:Int)))<0))=true then (some (-1:Int)) else (some (i64.wrap (x1-(x0.length:Int)))))
theorem UT:JF US Oc:=cT OV rfl ⟨rfl,rfl⟩ (by kernel_rfl)
def R8 (x0:AQ) (x1:Int):Option Int:=(if (decide ((i64.wrap (x1-(x0.2.2.2.2.1.size:Int)))<0))=true then (some (-1:Int)) else (if (decide ((i64.wrap ((i64.wrap (x1-(x0.2.2.2.2.1.size:Int)))-(x0.2.2.2.2.2.size:Int)))<0))=true then (some (-1:Int)) else (some (i64.wrap ((i64.wrap (x1-(x0.2.2.2.2.1.size:Int)))-(x0.2.2.2.2.2.size:Int))))))
theorem rL:JF R8 Rm:=cT MP rfl ⟨rfl,rfl⟩ (by kernel_rfl)
def g8:=cG S5 (AK Dn) (AK Dn) kx
def g9:=kE 0 [] [2,4] 4 g8 kx
def du:St->Option (RT (BI.outs Dn)):=lG S4 [] [0,2,4,5] 4 (AK Dn) g9
def Fo (x0:List (List Int)) (x1:Int) (x2:List Z) (x3:List (List Int)) (x4:List AD) (x5:List AP) (x6:List Z) (x7:List (List Int)):Option (AL×Bool):=du ⟨[(0,.lst .S x0),(2,.ptr 1 0),(4,.ptr 3 0),(5,.int .i64 x1)],[.rows 74 AB x2,.var [.lst .S x3,.row 0,.lst AI x4,.lst Ag x5],.rows 74 AB x6,.var [.lst .S x7,.row 2,.nil,.nil]]⟩
def LW (x0:List (List Int)) (x1:Int) (x2:List Z) (x3:List (List Int)) (x4:List AD) (x5:List AP) (x6:List Z) (x7:List (List Int)):Option (AL×Bool):=(if (decide (x1<=6))=true then ((OA x1 x0).bind fun y3=>(if x6.length+([y3.1]:List Z).length<=68719476736 then (Fo x0 (i64.wrap (x1+1)) x2 x3 x4 x5 (x6++([y3.1]:List Z)) x7) else none)) else (some ((x7,x6,[],[]),true)))
def Pl (x0:List (List Int)):Option (AL×Bool):=((EV x0).bind fun y1=>(if (!y1)=true then (some (([],([]:List Z),[],[]),false)) else ((Gt x0).bind fun y2=>(Fo x0 1 ([]:List Z) ([]:List (List Int)) ([]:List AD) ([]:List AP) ([]:List Z) y2))))
theorem R9:Le8 LW Fo:=lS (by kernel_rfl)
theorem Xt:SU Pl Kx:=cT Dn rfl ⟨rfl,rfl⟩ (by kernel_rfl)
def Mt (x0:Bool) (x1:AQ):Option Bool:=cG U4 (AK G8) (AK G8) kx ⟨[(1,.ptr 0 0),(17,.bool x0)],[.var (AO.enc x1)]⟩
def Td (x0:Bool) (x1:AQ):Option Bool:=(if (x1.1 != 1)=true then (if (x1.2.2.2.1==0)=true then (if (x1.2.2.2.2.1.toList==(⟨#[]⟩:ByteArray).toList)=true then (some (x1.2.2.2.2.2.toList==(⟨#[]⟩:ByteArray).toList)) else (some false)) else (some false)) else (if (x1.2.2.2.1==1)=false then (if (x1.2.2.2.1==2)=true then ((Ab (x1.2.2.2.2.1.size:Int) 1 12).bind fun y3=>(if y3=true then (if (decide ((x1.2.2.2.2.2.size:Int)<=20))=true then (if (x1.2.2.2.1==1)=false then (some (x1.2.2.2.2.2.toList==(⟨#[]⟩:ByteArray).toList)) else (some true)) else (some false)) else (some false))) else (some false)) else ((Ab (x1.2.2.2.2.1.size:Int) 1 12).bind fun y4=>(if y4=true then (if (decide ((x1.2.2.2.2.2.size:Int)<=20))=true then (if (x1.2.2.2.1==1)=false then (some (x1.2.2.2.2.2.toList==(⟨#[]⟩:ByteArray).toList)) else (some true)) else (some false)) else (some false)))))
def Zd (x0:AQ):Option Bool:=((Ab x0.1 1 6).bind fun y1=>(if (!y1)=false then ((Ab x0.2.1 1 6).bind fun y2=>(if (!y2)=false then (if (decide (x0.2.2.1<0))=true then (some false) else (Mt (decide (x0.2.2.1<0)) x0)) else (some false))) else (some false)))
theorem g_:JF Td Mt:=jS (by kernel_rfl)
theorem rM:SU Zd Rn:=cT G8 rfl ⟨rfl,rfl⟩ (by kernel_rfl)
def Mu (x1:Int) (x2:AQ) (b0:AL):Option (Int×AL):=(if (x2.1==1)=true then ((Pf x1 x2 b0).bind fun y1=>(some (y1.1,y1.2))) else (if (x2.1==5)=true then ((Pg x1 x2.2.1 b0).bind fun y2=>(some (y2.1,y2.2))) else (if (x2.1==6)=true then (if 0<=(i64.wrap (x2.2.1-1)) then (if (i64.wrap (x2.2.1-1))<(b0.2.1.length:Int) then ((Za (b0.2.1.getD (i64.wrap (x2.2.1-1)).toNat (0,0,false,false,false,false,([]:List Int),([]:List AA),0,0,0,0,(U,U,0),([]:List Int)))).bind fun y3=>((FY y3 ([]:List AD) ([]:List AM) x1 b0).bind fun y4=>(some (0,y4)))) else none) else none) else ((UO x1 x2 b0).bind fun y5=>(some (y5.1,y5.2))))))
theorem vE:Jl Mu Wi:=cT Qq rfl ⟨rfl,rfl⟩ (by kernel_rfl)
def kq:=cG U6 (AK EN) (AK EN) kx
def kt:=kE 0 [] [2,3] 6 kq kx
def hJ:St->Option (RT (BI.outs EN)):=lG U5 [] [1,2,3,4] 6 (AK EN) kt
def GY (x0:Int) (x1:List (List Int)) (x2:List Z) (x3:List AD) (x4:List AP) (x5:List Z) (x6:List (List Int)) (x7:List AD) (x8 x9:List AP) (x10:List Z) (x11:List (List Int)) (x12:List AD) (x13:List AP):Option AL:=hJ ⟨[(1,.ptr 0 0),(2,.ptr 2 0),(3,.ptr 5 0),(4,.int .i64 x0)],[.var [.lst .S x1,.lst AB x2,.lst AI x3,.lst Ag x4],.rows 74 AB x5,.var [.lst .S x6,.row 1,.lst AI x7,.lst Ag x8],.frz Ag x9,.rows 74 AB x10,.var [.lst .S x11,.row 4,.lst AI x12,.lst Ag x13]]⟩
def Mv (x0:Int) (x1:List (List Int)) (x2:List Z) (x3:List AD) (x4:List AP) (x5:List Z) (x6:List (List Int)) (x7:List AD) (x8 x9:List AP) (x10:List Z) (x11:List (List Int)) (x12:List AD) (x13:List AP):Option AL:=(if (decide (x0<(x2.length:Int)))=true then (if 0<=x0 then (if x0<(x2.length:Int) then ((DZ (x2.getD x0.toNat (0,0,false,false,false,false,([]:List Int),([]:List AA),0,0,0,0,(U,U,0),([]:List Int)))).bind fun y3=>(if x10.length+([y3]:List Z).length<=68719476736 then (GY (i64.wrap (x0+1)) x1 x2 x3 x4 x5 x6 x7 x8 x9 (x10++([y3]:List Z)) x11 x12 x13) else none)) else none) else none) else (some (x11,x10,x12,x13)))
def Ze (x0:AL):Option AL:=((Gt x0.1).bind fun y1=>((LF x0.2.2.1).bind fun y2=>(if ([]:List AP).length+x0.2.2.2.length<=68719476736 then (GY 0 x0.1 x0.2.1 x0.2.2.1 x0.2.2.2 ([]:List Z) ([]:List (List Int)) ([]:List AD) ([]:List AP) (([]:List AP)++x0.2.2.2) ([]:List Z) y1 y2 (([]:List AP)++x0.2.2.2)) else none)))
theorem Te:ADa Mv GY:=lS (by kernel_rfl)
theorem rN:SU Ze Ro:=cT EN rfl ⟨rfl,rfl⟩ (by kernel_rfl)
def oB:=cG XB (AK FC) (AK FC) kx
def oC:=kE 0 [(3,0)] [3] 1 oB kx
def ku:St->Option (RT (BI.outs FC)):=lG XA [(3,0)] [0,3,4] 1 (AK FC) oC
def Jc (x0:List Int) (x1:Int) (x2:List Int):Option (List Int):=ku ⟨[(0,.lst .W x0),(3,.row 0),(4,.int .i64 x1)],[.rows 3 .W x2]⟩
def kw (x0:List Int) (x1:Int) (x2:List Int):Option (List Int):=(if (decide (x1<(x0.length:Int)))=true then (if 0<=x1 then (if x1<(x0.length:Int) then (if 0<=x1 then (if x1<(x2.length:Int) then (let z1:List Int:=x2.set x1.toNat (x0.getD x1.toNat 0); (Jc x0 (i64.wrap (x1+1)) z1)) else none) else none) else none) else none) else (some x2))
def tK (x0:List Int):Option (List Int):=(if 0<=(x0.length:Int) then (if (x0.length:Int)<=68719476736 then (Jc x0 0 (List.replicate (x0.length:Int).toNat 0)) else none) else none)
theorem ky:Jl kw Jc:=lS (by kernel_rfl)
theorem tL:SU tK Od:=cT FC rfl ⟨rfl,rfl⟩ (by kernel_rfl)
def Zf (x0:AQ):Option AQ:=(some x0)
theorem rO:SU Zf Mi:=cT MQ rfl ⟨rfl,rfl⟩ (by kernel_rfl)
def hO:=cG S7 (AK Do) (AK Do) kx
def hP:=kE 0 [] [2,4] 8 hO kx
def dv:St->Option (RT (BI.outs Do)):=lG S6 [] [0,2,4,5] 8 (AK Do) hP
def Fp (x0:List (List Int)) (x1:Int) (x2:List Z) (x3:List AD) (x4:List AP) (x5:List (List Int)) (x6:List Z) (x7:List AD) (x8:List AP) (x9:List (List Int)):Option (AL×Bool):=dv ⟨[(0,.lst .S x0),(2,.ptr 3 0),(4,.ptr 7 0),(5,.int .i64 x1)],[.rows 74 AB x2,.rows 90 AI x3,.rows 88 Ag x4,.var [.lst .S x5,.row 0,.row 1,.row 2],.rows 74 AB x6,.rows 90 AI x7,.rows 88 Ag x8,.var [.lst .S x9,.row 4,.row 5,.row 6]]⟩
def LX (x0:List (List Int)) (x1:Int) (x2:List Z) (x3:List AD) (x4:List AP) (x5:List (List Int)) (x6:List Z) (x7:List AD) (x8:List AP) (x9:List (List Int)):Option (AL×Bool):=(if (decide (x1<=6))=true then ((OC x1 x0).bind fun y3=>(if x6.length+([y3.1]:List Z).length<=68719476736 then (Fp x0 (i64.wrap (x1+1)) x2 x3 x4 x5 (x6++([y3.1]:List Z)) x7 x8 x9) else none)) else (some ((x9,x6,x7,x8),true)))
def Pm (x0:List (List Int)):Option (AL×Bool):=((EW x0).bind fun y1=>(if (!y1)=true then (some (([],([]:List Z),([]:List AD),([]:List AP)),false)) else ((OB x0).bind fun y2=>(Fp x0 1 ([]:List Z) ([]:List AD) ([]:List AP) ([]:List (List Int)) ([]:List Z) ([]:List AD) ([]:List AP) y2))))
theorem R_:zt LX Fp:=lS (by kernel_rfl)
theorem Xu:SU Pm Ky:=cT Do rfl ⟨rfl,rfl⟩ (by kernel_rfl)
def Mw (x0:Bool) (x1:AQ):Option Bool:=cG U7 (AK G9) (AK G9) kx ⟨[(1,.ptr 0 0),(17,.bool x0)],[.var (AO.enc x1)]⟩
def Tf (x0:Bool) (x1:AQ):Option Bool:=(if (x1.1==1)=true then ((Mj x1.2.2.2.1 0 x1.2.2.2.2.1 x1.2.2.2.2.2).bind fun y3=>(some y3)) else (if (x1.2.2.2.1==0)=true then (if (x1.2.2.2.2.1.toList==(⟨#[]⟩:ByteArray).toList)=true then (some (x1.2.2.2.2.2.toList==(⟨#[]⟩:ByteArray).toList)) else (some false)) else (some false)))
def Zg (x0:AQ):Option Bool:=((Av x0.1 1 6).bind fun y1=>(if (!y1)=false then ((FR x0.2.1).bind fun y2=>(if (!y2)=false then (if (decide (x0.2.2.1<0))=true then (some false) else (Mw (decide (x0.2.2.1<0)) x0)) else (some false))) else (some false)))
theorem hU:JF Tf Mw:=jS (by kernel_rfl)
theorem rP:SU Zg Rp:=cT G9 rfl ⟨rfl,rfl⟩ (by kernel_rfl)
def SA (x1:AQ) (x2:Int) (b0:AL):Option (Bool×AL):=(if (x1.1==1)=true then ((LG x1 x2 b0).bind fun y1=>(some (y1.1,y1.2))) else (if (x1.1==5)=true then ((LI x1 x2 b0).bind fun y2=>(some (y2.1,y2.2))) else (if (x1.1==6)=true then ((B8 x1.2.1 b0).bind fun y3=>(if 0<=y3.1 then (if y3.1<(y3.2.2.1.length:Int) then ((Ta (y3.2.2.1.getD y3.1.toNat (0,0,false,false,false,false,([]:List Int),([]:List AA),0,0,0,0,(U,U,0),([]:List Int)))).bind fun y4=>(if 0<=y3.1 then (if y3.1<(y3.2.2.1.length:Int) then (let z5:List Z:=y3.2.2.1.set y3.1.toNat y4; (some (true,(y3.2.1,z5,y3.2.2.2)))) else none) else none)) else none) else none)) else ((I3 x1 x2 b0).bind fun y6=>(some (y6.1,y6.2))))))
theorem dw:Jl SA Hi:=cT Hf rfl ⟨rfl,rfl⟩ (by kernel_rfl)
def cV (x0:Bool):Option Int:=(if x0=true then (some 0) else (some 1))
theorem tM:SU cV UM:=cT OW rfl ⟨rfl,rfl⟩ (by kernel_rfl)

def dx:=cG P1 (AK BT) (AK BT) kx
def dy:=kE 2 [] [2,3] 13 dx kx
def bS:St->Option (RT (BI.outs BT)):=lG P0 [] [2,3,31,32,33] 13 (AK BT) dy
def dz:=cG KC (AK BT) (AK BT) kx
def d6:=kE 0 [] [1,2,3] 13 dz kx
def bT:St->Option (RT (BI.outs BT)):=lG RS [] [1,2,3,16,17,18] 13 (AK BT) d6
def Ep (x0:List AD) (x1 x2:Int) (x3:List (List Int)) (x4:List Z) (x5:List AD) (x6:List AP) (x7:List (List Int)) (x8:List Z) (x9:List AD) (x10:List AP) (x11:List (List Int)) (x12:List Z) (x13:List AD) (x14:List AP):Option AL:=bS ⟨[(2,.ptr 5 0),(3,.ptr 12 0),(31,.lst AI x0),(32,.int .i64 x1),(33,.int .i64 x2)],[.var [.lst .S x3,.lst AB x4,.lst AI x5,.lst Ag x6],.rows 31 (.own 3 .W) x7,.rows 74 Ai x8,.rows 90 Bb x9,.rows 88 Ag x10,.var [.row 1,.row 2,.row 3,.row 4],.dead,.dead,.rows 31 (.own 3 .W) x11,.rows 74 Ai x12,.rows 90 Bb x13,.rows 88 Ag x14,.var [.row 8,.row 9,.row 10,.row 11]]⟩
def QL (x0:List (List Int)) (x1:List Z) (x2:List AD) (x3:List AP) (x4:List (List Int)) (x5:List Z) (x6:List AD) (x7:List AP) (x8:List (List Int)) (x9:List Z) (x10:List AD) (x11:List AP):Option AL:=cG KC (AK BT) (AK BT) kx ⟨[(1,.ptr 0 0),(2,.ptr 5 0),(3,.ptr 12 0)],[.var [.lst .S x0,.lst AB x1,.lst AI x2,.lst Ag x3],.rows 31 (.own 3 .W) x4,.rows 74 Ai x5,.rows 90 Bb x6,.rows 88 Ag x7,.var [.row 1,.row 2,.row 3,.row 4],.dead,.dead,.rows 31 (.own 3 .W) x8,.rows 74 Ai x9,.rows 90 Bb x10,.rows 88 Ag x11,.var [.row 8,.row 9,.row 10,.row 11]]⟩
def Er (x0:List Z) (x1 x2:Int) (x3:List (List Int)) (x4:List Z) (x5:List AD) (x6:List AP) (x7:List (List Int)) (x8:List Z) (x9:List AD) (x10:List AP) (x11:List (List Int)) (x12:List Z) (x13:List AD) (x14:List AP):Option AL:=bT ⟨[(1,.ptr 0 0),(2,.ptr 5 0),(3,.ptr 12 0),(16,.lst AB x0),(17,.int .i64 x1),(18,.int .i64 x2)],[.var [.lst .S x3,.lst AB x4,.lst AI x5,.lst Ag x6],.rows 31 (.own 3 .W) x7,.rows 74 Ai x8,.rows 90 Bb x9,.rows 88 Ag x10,.var [.row 1,.row 2,.row 3,.row 4],.dead,.dead,.rows 31 (.own 3 .W) x11,.rows 74 Ai x12,.rows 90 Bb x13,.rows 88 Ag x14,.var [.row 8,.row 9,.row 10,.row 11]]⟩
def KG (x0:List AD) (x1 x2:Int) (x3:List (List Int)) (x4:List Z) (x5:List AD) (x6:List AP) (x7:List (List Int)) (x8:List Z) (x9:List AD) (x10:List AP) (x11:List (List Int)) (x12:List Z) (x13:List AD) (x14:List AP):Option AL:=(if (decide (x2<x1))=true then (if 0<=x2 then (if x2<(x0.length:Int) then ((OF (x0.getD x2.toNat (0,0,0,0,0,([]:List AA)))).bind fun y4=>(if x13.length+([y4]:List AD).length<=68719476736 then (Ep x0 x1 (i64.wrap (x2+1)) x3 x4 x5 x6 x7 x8 x9 x10 x11 x12 (x13++([y4]:List AD)) x14) else none)) else none) else none) else (some (x11,x12,x13,x14)))
def QM (x0:List (List Int)) (x1:List Z) (x2:List AD) (x3:List AP) (x4:List (List Int)) (x5:List Z) (x6:List AD) (x7:List AP) (x8:List (List Int)) (x9:List Z) (x10:List AD) (x11:List AP):Option AL:=(Ep x2 (x2.length:Int) 0 x0 x1 x2 x3 x4 x5 x6 x7 x8 x9 x10 x11)
def KH (x0:List Z) (x1 x2:Int) (x3:List (List Int)) (x4:List Z) (x5:List AD) (x6:List AP) (x7:List (List Int)) (x8:List Z) (x9:List AD) (x10:List AP) (x11:List (List Int)) (x12:List Z) (x13:List AD) (x14:List AP):Option AL:=(if (decide (x2<x1))=true then (if 0<=x2 then (if x2<(x0.length:Int) then ((KE (x0.getD x2.toNat (0,0,false,false,false,false,([]:List Int),([]:List AA),0,0,0,0,(U,U,0),([]:List Int)))).bind fun y3=>(if x12.length+([y3]:List Z).length<=68719476736 then (Er x0 x1 (i64.wrap (x2+1)) x3 x4 x5 x6 x7 x8 x9 x10 x11 (x12++([y3]:List Z)) x13 x14) else none)) else none) else none) else (QL x3 x4 x5 x6 x7 x8 x9 x10 x11 x12 x13 x14))
def Vd (x0:AL):Option AL:=((LL x0.1).bind fun y1=>((C9 x0.2.2.2).bind fun y2=>(Er x0.2.1 (x0.2.1.length:Int) 0 x0.1 x0.2.1 x0.2.2.1 x0.2.2.2 ([]:List (List Int)) ([]:List Z) ([]:List AD) ([]:List AP) y1 ([]:List Z) ([]:List AD) y2)))
theorem QN:ADA KG Ep:=lS (by kernel_rfl)
theorem bU:ADm QM QL:=jS (by kernel_rfl)
theorem QO:ADA KH Er:=lS (by kernel_rfl)
theorem kz:SU Vd JZ:=cT BT rfl ⟨rfl,rfl⟩ (by kernel_rfl)
def d7:=cG RV (AK DB) (AK DB) kx
def d8:=kE 0 [] [] 0 d7 kx
def bV:St->Option (RT (BI.outs DB)):=lG RU [] [0,1,5] 0 (AK DB) d8
def Gv (x0 x1:List Z) (x2:Int):Option Bool:=bV ⟨[(0,.lst AB x0),(1,.lst AB x1),(5,.int .i64 x2)],[]⟩
def bW (x0 x1:List Z) (x2:Int):Option Bool:=(if (decide (x2<(x0.length:Int)))=true then (if 0<=x2 then (if x2<(x0.length:Int) then (if 0<=x2 then (if x2<(x1.length:Int) then ((Ph (x0.getD x2.toNat (0,0,false,false,false,false,([]:List Int),([]:List AA),0,0,0,0,(U,U,0),([]:List Int))) (x1.getD x2.toNat (0,0,false,false,false,false,([]:List Int),([]:List AA),0,0,0,0,(U,U,0),([]:List Int)))).bind fun y1=>(if (!y1)=true then (some false) else (Gv x0 x1 (i64.wrap (x2+1))))) else none) else none) else none) else none) else (some true))
def k_ (x0 x1:List Z):Option Bool:=(if ((x0.length:Int) != (x1.length:Int))=true then (some false) else (Gv x0 x1 0))
theorem bX:Jl bW Gv:=lS (by kernel_rfl)
theorem lA:JF k_ N7:=cT DB rfl ⟨rfl,rfl⟩ (by kernel_rfl)
def oD:=cG XD (AK FD) (AK FD) kx
def oE:=kE 0 [] [] 0 oD kx
def lB:St->Option (RT (BI.outs FD)):=lG XC [] [0,1,5] 0 (AK FD) oE
def Jd (x0 x1:List AD) (x2:Int):Option Bool:=lB ⟨[(0,.lst AI x0),(1,.lst AI x1),(5,.int .i64 x2)],[]⟩
def lC (x0 x1:List AD) (x2:Int):Option Bool:=(if (decide (x2<(x0.length:Int)))=true then (if 0<=x2 then (if x2<(x0.length:Int) then (if 0<=x2 then (if x2<(x1.length:Int) then ((Wj (x0.getD x2.toNat (0,0,0,0,0,([]:List AA))) (x1.getD x2.toNat (0,0,0,0,0,([]:List AA)))).bind fun y1=>(if (!y1)=true then (some false) else (Jd x0 x1 (i64.wrap (x2+1))))) else none) else none) else none) else none) else (some true))
def tN (x0 x1:List AD):Option Bool:=(if ((x0.length:Int) != (x1.length:Int))=true then (some false) else (Jd x0 x1 0))
theorem lD:Jl lC Jd:=lS (by kernel_rfl)
theorem tO:JF tN UN:=cT FD rfl ⟨rfl,rfl⟩ (by kernel_rfl)
def lE:=cG U9 (AK EO) (AK EO) kx
def lF:=kE 0 [] [] 0 lE kx
def hX:St->Option (RT (BI.outs EO)):=lG U8 [] [0,1,5] 0 (AK EO) lF
def Ik (x0 x1:List AP) (x2:Int):Option Bool:=hX ⟨[(0,.lst Ag x0),(1,.lst Ag x1),(5,.int .i64 x2)],[]⟩
def hY (x0 x1:List AP) (x2:Int):Option Bool:=(if (decide (x2<(x0.length:Int)))=true then (if 0<=x2 then (if x2<(x0.length:Int) then (if 0<=x2 then (if x2<(x1.length:Int) then ((UP (x0.getD x2.toNat (0,U,U,0,0,0,0,0,U)) (x1.getD x2.toNat (0,U,U,0,0,0,0,0,U))).bind fun y1=>(if (!y1)=true then (some false) else (Ik x0 x1 (i64.wrap (x2+1))))) else none) else none) else none) else none) else (some true))
def rQ (x0 x1:List AP):Option Bool:=(if ((x0.length:Int) != (x1.length:Int))=true then (some false) else (Ik x0 x1 0))
theorem hZ:Jl hY Ik:=lS (by kernel_rfl)
theorem rR:JF rQ Rq:=cT EO rfl ⟨rfl,rfl⟩ (by kernel_rfl)
def Zh (x0 x1:AQ):Option Bool:=(if (x0.1 != x1.1)=true then (some false) else (if (x0.2.1 != x1.2.1)=true then (some false) else (if (x0.2.2.1 != x1.2.2.1)=true then (some false) else (if (x0.2.2.2.1 != x1.2.2.2.1)=true then (some false) else (if (!(x0.2.2.2.2.1.toList==x1.2.2.2.2.1.toList))=true then (some false) else (if (!(x0.2.2.2.2.2.toList==x1.2.2.2.2.2.toList))=true then (some false) else (some true)))))))
theorem rS:JF Zh Rr:=cT MR rfl ⟨rfl,rfl⟩ (by kernel_rfl)
def h_:=cG S9 (AK Dp) (AK Dp) kx
def iA:=kE 0 [] [3] 0 h_ kx
def d9:St->Option (RT (BI.outs Dp)):=lG S8 [] [0,3] 0 (AK Dp) iA
def Ht (x0:Int) (x1:ByteArray):Option ByteArray:=d9 ⟨[(0,.int .i64 x0),(3,.str x1)],[]⟩
def Hu (x0:Int) (x1:ByteArray):Option ByteArray:=(if (decide (x0>0))=true then (if 10=0 then none else (if (OR ([(IntKind.u8.wrap (i64.wrap (48+(Int.tmod x0 10))))]:List Int)).size+x1.size<=1099511627776 then (if 10=0 then none else (Ht (i64.wrap (Int.tdiv x0 10)) ((OR ([(IntKind.u8.wrap (i64.wrap (48+(Int.tmod x0 10))))]:List Int))++x1))) else none)) else (if (⟨#[109]⟩:ByteArray).size+x1.size<=1099511627776 then (some ((⟨#[109]⟩:ByteArray)++x1)) else none))
def Pn (x0:Int):Option ByteArray:=(if (decide (x0<=0))=true then (some (⟨#[109,48]⟩:ByteArray)) else (Ht x0 (⟨#[]⟩:ByteArray)))
theorem LY:JF Hu Ht:=lS (by kernel_rfl)
theorem Xv:SU Pn Aw:=cT Dp rfl ⟨rfl,rfl⟩ (by kernel_rfl)
def Zi:=cG NP (AK Cb) (AK Cb) kx
def Zj:=kE 0 [] [1] 1 Zi kx
def YY:St->Option (RT (BI.outs Cb)):=lG NO [(0,0)] [0,1,5] 1 (AK Cb) Zj
def Fy (x0 x1:Int) (x2:List Z):Option (Int×List Z):=YY ⟨[(0,.row 0),(1,.int .i64 x0),(5,.int .i64 x1)],[.mrow 74 Ai x2]⟩
def IS (x0 x1:Int) (x2:List Z):Option (Int×List Z):=(if (decide (x1<(x2.length:Int)))=true then (if 0<=x1 then (if x1<(x2.length:Int) then (let z1:List Z:=x2.set x1.toNat (x0,(x2.getD x1.toNat (0,0,false,false,false,false,([]:List Int),([]:List AA),0,0,0,0,(U,U,0),([]:List Int))).2); (if 0<=x1 then (if x1<(z1.length:Int) then (let z2:List Z:=z1.set x1.toNat ((z1.getD x1.toNat (0,0,false,false,false,false,([]:List Int),([]:List AA),0,0,0,0,(U,U,0),([]:List Int))).1,(i64.wrap (x0+1)),((z1.getD x1.toNat (0,0,false,false,false,false,([]:List Int),([]:List AA),0,0,0,0,(U,U,0),([]:List Int))).2).2); (if 3=0 then none else (if 0<=x1 then (if x1<(z2.length:Int) then (let z3:List Z:=z2.set x1.toNat ((z2.getD x1.toNat (0,0,false,false,false,false,([]:List Int),([]:List AA),0,0,0,0,(U,U,0),([]:List Int))).1,((z2.getD x1.toNat (0,0,false,false,false,false,([]:List Int),([]:List AA),0,0,0,0,(U,U,0),([]:List Int))).2).1,((Int.tmod (i64.wrap ((i64.wrap (x0+1))+1)) 3)==0),(((z2.getD x1.toNat (0,0,false,false,false,false,([]:List Int),([]:List AA),0,0,0,0,(U,U,0),([]:List Int))).2).2).2); (if 3=0 then none else (if 0<=x1 then (if x1<(z3.length:Int) then (let z4:List Z:=z3.set x1.toNat ((z3.getD x1.toNat (0,0,false,false,false,false,([]:List Int),([]:List AA),0,0,0,0,(U,U,0),([]:List Int))).1,((z3.getD x1.toNat (0,0,false,false,false,false,([]:List Int),([]:List AA),0,0,0,0,(U,U,0),([]:List Int))).2).1,(((z3.getD x1.toNat (0,0,false,false,false,false,([]:List Int),([]:List AA),0,0,0,0,(U,U,0),([]:List Int))).2).2).1,((Int.tmod (i64.wrap ((i64.wrap ((i64.wrap (x0+1))+1))+1)) 3)==0),((((z3.getD x1.toNat (0,0,false,false,false,false,([]:List Int),([]:List AA),0,0,0,0,(U,U,0),([]:List Int))).2).2).2).2); (if 3=0 then none else (if 0<=x1 then (if x1<(z4.length:Int) then (let z5:List Z:=z4.set x1.toNat ((z4.getD x1.toNat (0,0,false,false,false,false,([]:List Int),([]:List AA),0,0,0,0,(U,U,0),([]:List Int))).1,((z4.getD x1.toNat (0,0,false,false,false,false,([]:List Int),([]:List AA),0,0,0,0,(U,U,0),([]:List Int))).2).1,(((z4.getD x1.toNat (0,0,false,false,false,false,([]:List Int),([]:List AA),0,0,0,0,(U,U,0),([]:List Int))).2).2).1,((((z4.getD x1.toNat (0,0,false,false,false,false,([]:List Int),([]:List AA),0,0,0,0,(U,U,0),([]:List Int))).2).2).2).1,((Int.tmod (i64.wrap ((i64.wrap ((i64.wrap ((i64.wrap (x0+1))+1))+1))+1)) 3)==0),(((((z4.getD x1.toNat (0,0,false,false,false,false,([]:List Int),([]:List AA),0,0,0,0,(U,U,0),([]:List Int))).2).2).2).2).2); (if 3=0 then none else (if 0<=x1 then (if x1<(z5.length:Int) then (let z6:List Z:=z5.set x1.toNat ((z5.getD x1.toNat (0,0,false,false,false,false,([]:List Int),([]:List AA),0,0,0,0,(U,U,0),([]:List Int))).1,((z5.getD x1.toNat (0,0,false,false,false,false,([]:List Int),([]:List AA),0,0,0,0,(U,U,0),([]:List Int))).2).1,(((z5.getD x1.toNat (0,0,false,false,false,false,([]:List Int),([]:List AA),0,0,0,0,(U,U,0),([]:List Int))).2).2).1,((((z5.getD x1.toNat (0,0,false,false,false,false,([]:List Int),([]:List AA),0,0,0,0,(U,U,0),([]:List Int))).2).2).2).1,(((((z5.getD x1.toNat (0,0,false,false,false,false,([]:List Int),([]:List AA),0,0,0,0,(U,U,0),([]:List Int))).2).2).2).2).1,((Int.tmod (i64.wrap ((i64.wrap ((i64.wrap ((i64.wrap ((i64.wrap (x0+1))+1))+1))+1))+1)) 3)==0),((((((z5.getD x1.toNat (0,0,false,false,false,false,([]:List Int),([]:List AA),0,0,0,0,(U,U,0),([]:List Int))).2).2).2).2).2).2); (if 0<=x1 then (if x1<(z6.length:Int) then ((C4 (i64.wrap ((i64.wrap ((i64.wrap ((i64.wrap ((i64.wrap ((i64.wrap (x0+1))+1))+1))+1))+1))+1)) ((((((((z6.getD x1.toNat (0,0,false,false,false,false,([]:List Int),([]:List AA),0,0,0,0,(U,U,0),([]:List Int))).2).2).2).2).2).2).1)).bind fun y7=>(let z8:List Z:=z6.set x1.toNat ((z6.getD x1.toNat (0,0,false,false,false,false,([]:List Int),([]:List AA),0,0,0,0,(U,U,0),([]:List Int))).1,((z6.getD x1.toNat (0,0,false,false,false,false,([]:List Int),([]:List AA),0,0,0,0,(U,U,0),([]:List Int))).2).1,(((z6.getD x1.toNat (0,0,false,false,false,false,([]:List Int),([]:List AA),0,0,0,0,(U,U,0),([]:List Int))).2).2).1,((((z6.getD x1.toNat (0,0,false,false,false,false,([]:List Int),([]:List AA),0,0,0,0,(U,U,0),([]:List Int))).2).2).2).1,(((((z6.getD x1.toNat (0,0,false,false,false,false,([]:List Int),([]:List AA),0,0,0,0,(U,U,0),([]:List Int))).2).2).2).2).1,((((((z6.getD x1.toNat (0,0,false,false,false,false,([]:List Int),([]:List AA),0,0,0,0,(U,U,0),([]:List Int))).2).2).2).2).2).1,y7.2,(((((((z6.getD x1.toNat (0,0,false,false,false,false,([]:List Int),([]:List AA),0,0,0,0,(U,U,0),([]:List Int))).2).2).2).2).2).2).2); (if 0<=x1 then (if x1<(z8.length:Int) then ((FZ y7.1 (((((((((z8.getD x1.toNat (0,0,false,false,false,false,([]:List Int),([]:List AA),0,0,0,0,(U,U,0),([]:List Int))).2).2).2).2).2).2).2).1)).bind fun y9=>(let z10:List Z:=z8.set x1.toNat ((z8.getD x1.toNat (0,0,false,false,false,false,([]:List Int),([]:List AA),0,0,0,0,(U,U,0),([]:List Int))).1,((z8.getD x1.toNat (0,0,false,false,false,false,([]:List Int),([]:List AA),0,0,0,0,(U,U,0),([]:List Int))).2).1,(((z8.getD x1.toNat (0,0,false,false,false,false,([]:List Int),([]:List AA),0,0,0,0,(U,U,0),([]:List Int))).2).2).1,((((z8.getD x1.toNat (0,0,false,false,false,false,([]:List Int),([]:List AA),0,0,0,0,(U,U,0),([]:List Int))).2).2).2).1,(((((z8.getD x1.toNat (0,0,false,false,false,false,([]:List Int),([]:List AA),0,0,0,0,(U,U,0),([]:List Int))).2).2).2).2).1,((((((z8.getD x1.toNat (0,0,false,false,false,false,([]:List Int),([]:List AA),0,0,0,0,(U,U,0),([]:List Int))).2).2).2).2).2).1,(((((((z8.getD x1.toNat (0,0,false,false,false,false,([]:List Int),([]:List AA),0,0,0,0,(U,U,0),([]:List Int))).2).2).2).2).2).2).1,y9.2,((((((((z8.getD x1.toNat (0,0,false,false,false,false,([]:List Int),([]:List AA),0,0,0,0,(U,U,0),([]:List Int))).2).2).2).2).2).2).2).2); (if 0<=x1 then (if x1<(z10.length:Int) then (let z11:List Z:=z10.set x1.toNat ((z10.getD x1.toNat (0,0,false,false,false,false,([]:List Int),([]:List AA),0,0,0,0,(U,U,0),([]:List Int))).1,((z10.getD x1.toNat (0,0,false,false,false,false,([]:List Int),([]:List AA),0,0,0,0,(U,U,0),([]:List Int))).2).1,(((z10.getD x1.toNat (0,0,false,false,false,false,([]:List Int),([]:List AA),0,0,0,0,(U,U,0),([]:List Int))).2).2).1,((((z10.getD x1.toNat (0,0,false,false,false,false,([]:List Int),([]:List AA),0,0,0,0,(U,U,0),([]:List Int))).2).2).2).1,(((((z10.getD x1.toNat (0,0,false,false,false,false,([]:List Int),([]:List AA),0,0,0,0,(U,U,0),([]:List Int))).2).2).2).2).1,((((((z10.getD x1.toNat (0,0,false,false,false,false,([]:List Int),([]:List AA),0,0,0,0,(U,U,0),([]:List Int))).2).2).2).2).2).1,(((((((z10.getD x1.toNat (0,0,false,false,false,false,([]:List Int),([]:List AA),0,0,0,0,(U,U,0),([]:List Int))).2).2).2).2).2).2).1,((((((((z10.getD x1.toNat (0,0,false,false,false,false,([]:List Int),([]:List AA),0,0,0,0,(U,U,0),([]:List Int))).2).2).2).2).2).2).2).1,y9.1,(((((((((z10.getD x1.toNat (0,0,false,false,false,false,([]:List Int),([]:List AA),0,0,0,0,(U,U,0),([]:List Int))).2).2).2).2).2).2).2).2).2); (if 0<=x1 then (if x1<(z11.length:Int) then (let z12:List Z:=z11.set x1.toNat ((z11.getD x1.toNat (0,0,false,false,false,false,([]:List Int),([]:List AA),0,0,0,0,(U,U,0),([]:List Int))).1,((z11.getD x1.toNat (0,0,false,false,false,false,([]:List Int),([]:List AA),0,0,0,0,(U,U,0),([]:List Int))).2).1,(((z11.getD x1.toNat (0,0,false,false,false,false,([]:List Int),([]:List AA),0,0,0,0,(U,U,0),([]:List Int))).2).2).1,((((z11.getD x1.toNat (0,0,false,false,false,false,([]:List Int),([]:List AA),0,0,0,0,(U,U,0),([]:List Int))).2).2).2).1,(((((z11.getD x1.toNat (0,0,false,false,false,false,([]:List Int),([]:List AA),0,0,0,0,(U,U,0),([]:List Int))).2).2).2).2).1,((((((z11.getD x1.toNat (0,0,false,false,false,false,([]:List Int),([]:List AA),0,0,0,0,(U,U,0),([]:List Int))).2).2).2).2).2).1,(((((((z11.getD x1.toNat (0,0,false,false,false,false,([]:List Int),([]:List AA),0,0,0,0,(U,U,0),([]:List Int))).2).2).2).2).2).2).1,((((((((z11.getD x1.toNat (0,0,false,false,false,false,([]:List Int),([]:List AA),0,0,0,0,(U,U,0),([]:List Int))).2).2).2).2).2).2).2).1,(((((((((z11.getD x1.toNat (0,0,false,false,false,false,([]:List Int),([]:List AA),0,0,0,0,(U,U,0),([]:List Int))).2).2).2).2).2).2).2).2).1,(i64.wrap (y9.1+1)),((((((((((z11.getD x1.toNat (0,0,false,false,false,false,([]:List Int),([]:List AA),0,0,0,0,(U,U,0),([]:List Int))).2).2).2).2).2).2).2).2).2).2); (if 0<=x1 then (if x1<(z12.length:Int) then (let z13:List Z:=z12.set x1.toNat ((z12.getD x1.toNat (0,0,false,false,false,false,([]:List Int),([]:List AA),0,0,0,0,(U,U,0),([]:List Int))).1,((z12.getD x1.toNat (0,0,false,false,false,false,([]:List Int),([]:List AA),0,0,0,0,(U,U,0),([]:List Int))).2).1,(((z12.getD x1.toNat (0,0,false,false,false,false,([]:List Int),([]:List AA),0,0,0,0,(U,U,0),([]:List Int))).2).2).1,((((z12.getD x1.toNat (0,0,false,false,false,false,([]:List Int),([]:List AA),0,0,0,0,(U,U,0),([]:List Int))).2).2).2).1,(((((z12.getD x1.toNat (0,0,false,false,false,false,([]:List Int),([]:List AA),0,0,0,0,(U,U,0),([]:List Int))).2).2).2).2).1,((((((z12.getD x1.toNat (0,0,false,false,false,false,([]:List Int),([]:List AA),0,0,0,0,(U,U,0),([]:List Int))).2).2).2).2).2).1,(((((((z12.getD x1.toNat (0,0,false,false,false,false,([]:List Int),([]:List AA),0,0,0,0,(U,U,0),([]:List Int))).2).2).2).2).2).2).1,((((((((z12.getD x1.toNat (0,0,false,false,false,false,([]:List Int),([]:List AA),0,0,0,0,(U,U,0),([]:List Int))).2).2).2).2).2).2).2).1,(((((((((z12.getD x1.toNat (0,0,false,false,false,false,([]:List Int),([]:List AA),0,0,0,0,(U,U,0),([]:List Int))).2).2).2).2).2).2).2).2).1,((((((((((z12.getD x1.toNat (0,0,false,false,false,false,([]:List Int),([]:List AA),0,0,0,0,(U,U,0),([]:List Int))).2).2).2).2).2).2).2).2).2).1,(i64.wrap ((i64.wrap (y9.1+1))+1)),(((((((((((z12.getD x1.toNat (0,0,false,false,false,false,([]:List Int),([]:List AA),0,0,0,0,(U,U,0),([]:List Int))).2).2).2).2).2).2).2).2).2).2).2); (if 0<=x1 then (if x1<(z13.length:Int) then (let z14:List Z:=z13.set x1.toNat ((z13.getD x1.toNat (0,0,false,false,false,false,([]:List Int),([]:List AA),0,0,0,0,(U,U,0),([]:List Int))).1,((z13.getD x1.toNat (0,0,false,false,false,false,([]:List Int),([]:List AA),0,0,0,0,(U,U,0),([]:List Int))).2).1,(((z13.getD x1.toNat (0,0,false,false,false,false,([]:List Int),([]:List AA),0,0,0,0,(U,U,0),([]:List Int))).2).2).1,((((z13.getD x1.toNat (0,0,false,false,false,false,([]:List Int),([]:List AA),0,0,0,0,(U,U,0),([]:List Int))).2).2).2).1,(((((z13.getD x1.toNat (0,0,false,false,false,false,([]:List Int),([]:List AA),0,0,0,0,(U,U,0),([]:List Int))).2).2).2).2).1,((((((z13.getD x1.toNat (0,0,false,false,false,false,([]:List Int),([]:List AA),0,0,0,0,(U,U,0),([]:List Int))).2).2).2).2).2).1,(((((((z13.getD x1.toNat (0,0,false,false,false,false,([]:List Int),([]:List AA),0,0,0,0,(U,U,0),([]:List Int))).2).2).2).2).2).2).1,((((((((z13.getD x1.toNat (0,0,false,false,false,false,([]:List Int),([]:List AA),0,0,0,0,(U,U,0),([]:List Int))).2).2).2).2).2).2).2).1,(((((((((z13.getD x1.toNat (0,0,false,false,false,false,([]:List Int),([]:List AA),0,0,0,0,(U,U,0),([]:List Int))).2).2).2).2).2).2).2).2).1,((((((((((z13.getD x1.toNat (0,0,false,false,false,false,([]:List Int),([]:List AA),0,0,0,0,(U,U,0),([]:List Int))).2).2).2).2).2).2).2).2).2).1,(((((((((((z13.getD x1.toNat (0,0,false,false,false,false,([]:List Int),([]:List AA),0,0,0,0,(U,U,0),([]:List Int))).2).2).2).2).2).2).2).2).2).2).1,(i64.wrap ((i64.wrap ((i64.wrap (y9.1+1))+1))+1)),((((((((((((z13.getD x1.toNat (0,0,false,false,false,false,([]:List Int),([]:List AA),0,0,0,0,(U,U,0),([]:List Int))).2).2).2).2).2).2).2).2).2).2).2).2); ((Aw (i64.wrap ((i64.wrap ((i64.wrap ((i64.wrap (y9.1+1))+1))+1))+1))).bind fun y15=>(if 0<=x1 then (if x1<(z14.length:Int) then (let z16:List Z:=z14.set x1.toNat ((z14.getD x1.toNat (0,0,false,false,false,false,([]:List Int),([]:List AA),0,0,0,0,(U,U,0),([]:List Int))).1,((z14.getD x1.toNat (0,0,false,false,false,false,([]:List Int),([]:List AA),0,0,0,0,(U,U,0),([]:List Int))).2).1,(((z14.getD x1.toNat (0,0,false,false,false,false,([]:List Int),([]:List AA),0,0,0,0,(U,U,0),([]:List Int))).2).2).1,((((z14.getD x1.toNat (0,0,false,false,false,false,([]:List Int),([]:List AA),0,0,0,0,(U,U,0),([]:List Int))).2).2).2).1,(((((z14.getD x1.toNat (0,0,false,false,false,false,([]:List Int),([]:List AA),0,0,0,0,(U,U,0),([]:List Int))).2).2).2).2).1,((((((z14.getD x1.toNat (0,0,false,false,false,false,([]:List Int),([]:List AA),0,0,0,0,(U,U,0),([]:List Int))).2).2).2).2).2).1,(((((((z14.getD x1.toNat (0,0,false,false,false,false,([]:List Int),([]:List AA),0,0,0,0,(U,U,0),([]:List Int))).2).2).2).2).2).2).1,((((((((z14.getD x1.toNat (0,0,false,false,false,false,([]:List Int),([]:List AA),0,0,0,0,(U,U,0),([]:List Int))).2).2).2).2).2).2).2).1,(((((((((z14.getD x1.toNat (0,0,false,false,false,false,([]:List Int),([]:List AA),0,0,0,0,(U,U,0),([]:List Int))).2).2).2).2).2).2).2).2).1,((((((((((z14.getD x1.toNat (0,0,false,false,false,false,([]:List Int),([]:List AA),0,0,0,0,(U,U,0),([]:List Int))).2).2).2).2).2).2).2).2).2).1,(((((((((((z14.getD x1.toNat (0,0,false,false,false,false,([]:List Int),([]:List AA),0,0,0,0,(U,U,0),([]:List Int))).2).2).2).2).2).2).2).2).2).2).1,((((((((((((z14.getD x1.toNat (0,0,false,false,false,false,([]:List Int),([]:List AA),0,0,0,0,(U,U,0),([]:List Int))).2).2).2).2).2).2).2).2).2).2).2).1,(y15,((((((((((((((z14.getD x1.toNat (0,0,false,false,false,false,([]:List Int),([]:List AA),0,0,0,0,(U,U,0),([]:List Int))).2).2).2).2).2).2).2).2).2).2).2).2).1).2),(((((((((((((z14.getD x1.toNat (0,0,false,false,false,false,([]:List Int),([]:List AA),0,0,0,0,(U,U,0),([]:List Int))).2).2).2).2).2).2).2).2).2).2).2).2).2); ((Aw (i64.wrap ((i64.wrap ((i64.wrap ((i64.wrap ((i64.wrap (y9.1+1))+1))+1))+1))+1))).bind fun y17=>(if 0<=x1 then (if x1<(z16.length:Int) then (let z18:List Z:=z16.set x1.toNat ((z16.getD x1.toNat (0,0,false,false,false,false,([]:List Int),([]:List AA),0,0,0,0,(U,U,0),([]:List Int))).1,((z16.getD x1.toNat (0,0,false,false,false,false,([]:List Int),([]:List AA),0,0,0,0,(U,U,0),([]:List Int))).2).1,(((z16.getD x1.toNat (0,0,false,false,false,false,([]:List Int),([]:List AA),0,0,0,0,(U,U,0),([]:List Int))).2).2).1,((((z16.getD x1.toNat (0,0,false,false,false,false,([]:List Int),([]:List AA),0,0,0,0,(U,U,0),([]:List Int))).2).2).2).1,(((((z16.getD x1.toNat (0,0,false,false,false,false,([]:List Int),([]:List AA),0,0,0,0,(U,U,0),([]:List Int))).2).2).2).2).1,((((((z16.getD x1.toNat (0,0,false,false,false,false,([]:List Int),([]:List AA),0,0,0,0,(U,U,0),([]:List Int))).2).2).2).2).2).1,(((((((z16.getD x1.toNat (0,0,false,false,false,false,([]:List Int),([]:List AA),0,0,0,0,(U,U,0),([]:List Int))).2).2).2).2).2).2).1,((((((((z16.getD x1.toNat (0,0,false,false,false,false,([]:List Int),([]:List AA),0,0,0,0,(U,U,0),([]:List Int))).2).2).2).2).2).2).2).1,(((((((((z16.getD x1.toNat (0,0,false,false,false,false,([]:List Int),([]:List AA),0,0,0,0,(U,U,0),([]:List Int))).2).2).2).2).2).2).2).2).1,((((((((((z16.getD x1.toNat (0,0,false,false,false,false,([]:List Int),([]:List AA),0,0,0,0,(U,U,0),([]:List Int))).2).2).2).2).2).2).2).2).2).1,(((((((((((z16.getD x1.toNat (0,0,false,false,false,false,([]:List Int),([]:List AA),0,0,0,0,(U,U,0),([]:List Int))).2).2).2).2).2).2).2).2).2).2).1,((((((((((((z16.getD x1.toNat (0,0,false,false,false,false,([]:List Int),([]:List AA),0,0,0,0,(U,U,0),([]:List Int))).2).2).2).2).2).2).2).2).2).2).2).1,(((((((((((((((z16.getD x1.toNat (0,0,false,false,false,false,([]:List Int),([]:List AA),0,0,0,0,(U,U,0),([]:List Int))).2).2).2).2).2).2).2).2).2).2).2).2).1).1,y17,(((((((((((((((z16.getD x1.toNat (0,0,false,false,false,false,([]:List Int),([]:List AA),0,0,0,0,(U,U,0),([]:List Int))).2).2).2).2).2).2).2).2).2).2).2).2).1).2).2),(((((((((((((z16.getD x1.toNat (0,0,false,false,false,false,([]:List Int),([]:List AA),0,0,0,0,(U,U,0),([]:List Int))).2).2).2).2).2).2).2).2).2).2).2).2).2); (if 0<=x1 then (if x1<(z18.length:Int) then (let z19:List Z:=z18.set x1.toNat ((z18.getD x1.toNat (0,0,false,false,false,false,([]:List Int),([]:List AA),0,0,0,0,(U,U,0),([]:List Int))).1,((z18.getD x1.toNat (0,0,false,false,false,false,([]:List Int),([]:List AA),0,0,0,0,(U,U,0),([]:List Int))).2).1,(((z18.getD x1.toNat (0,0,false,false,false,false,([]:List Int),([]:List AA),0,0,0,0,(U,U,0),([]:List Int))).2).2).1,((((z18.getD x1.toNat (0,0,false,false,false,false,([]:List Int),([]:List AA),0,0,0,0,(U,U,0),([]:List Int))).2).2).2).1,(((((z18.getD x1.toNat (0,0,false,false,false,false,([]:List Int),([]:List AA),0,0,0,0,(U,U,0),([]:List Int))).2).2).2).2).1,((((((z18.getD x1.toNat (0,0,false,false,false,false,([]:List Int),([]:List AA),0,0,0,0,(U,U,0),([]:List Int))).2).2).2).2).2).1,(((((((z18.getD x1.toNat (0,0,false,false,false,false,([]:List Int),([]:List AA),0,0,0,0,(U,U,0),([]:List Int))).2).2).2).2).2).2).1,((((((((z18.getD x1.toNat (0,0,false,false,false,false,([]:List Int),([]:List AA),0,0,0,0,(U,U,0),([]:List Int))).2).2).2).2).2).2).2).1,(((((((((z18.getD x1.toNat (0,0,false,false,false,false,([]:List Int),([]:List AA),0,0,0,0,(U,U,0),([]:List Int))).2).2).2).2).2).2).2).2).1,((((((((((z18.getD x1.toNat (0,0,false,false,false,false,([]:List Int),([]:List AA),0,0,0,0,(U,U,0),([]:List Int))).2).2).2).2).2).2).2).2).2).1,(((((((((((z18.getD x1.toNat (0,0,false,false,false,false,([]:List Int),([]:List AA),0,0,0,0,(U,U,0),([]:List Int))).2).2).2).2).2).2).2).2).2).2).1,((((((((((((z18.getD x1.toNat (0,0,false,false,false,false,([]:List Int),([]:List AA),0,0,0,0,(U,U,0),([]:List Int))).2).2).2).2).2).2).2).2).2).2).2).1,(((((((((((((((z18.getD x1.toNat (0,0,false,false,false,false,([]:List Int),([]:List AA),0,0,0,0,(U,U,0),([]:List Int))).2).2).2).2).2).2).2).2).2).2).2).2).1).1,(((((((((((((((z18.getD x1.toNat (0,0,false,false,false,false,([]:List Int),([]:List AA),0,0,0,0,(U,U,0),([]:List Int))).2).2).2).2).2).2).2).2).2).2).2).2).1).2).1,(i64.wrap ((i64.wrap ((i64.wrap ((i64.wrap ((i64.wrap ((i64.wrap (y9.1+1))+1))+1))+1))+1))+1))),(((((((((((((z18.getD x1.toNat (0,0,false,false,false,false,([]:List Int),([]:List AA),0,0,0,0,(U,U,0),([]:List Int))).2).2).2).2).2).2).2).2).2).2).2).2).2); (if 0<=x1 then (if x1<(z19.length:Int) then ((C4 (i64.wrap ((i64.wrap ((i64.wrap ((i64.wrap ((i64.wrap ((i64.wrap ((i64.wrap (y9.1+1))+1))+1))+1))+1))+1))+1)) ((((((((((((((z19.getD x1.toNat (0,0,false,false,false,false,([]:List Int),([]:List AA),0,0,0,0,(U,U,0),([]:List Int))).2).2).2).2).2).2).2).2).2).2).2).2).2)).bind fun y20=>(let z21:List Z:=z19.set x1.toNat ((z19.getD x1.toNat (0,0,false,false,false,false,([]:List Int),([]:List AA),0,0,0,0,(U,U,0),([]:List Int))).1,((z19.getD x1.toNat (0,0,false,false,false,false,([]:List Int),([]:List AA),0,0,0,0,(U,U,0),([]:List Int))).2).1,(((z19.getD x1.toNat (0,0,false,false,false,false,([]:List Int),([]:List AA),0,0,0,0,(U,U,0),([]:List Int))).2).2).1,((((z19.getD x1.toNat (0,0,false,false,false,false,([]:List Int),([]:List AA),0,0,0,0,(U,U,0),([]:List Int))).2).2).2).1,(((((z19.getD x1.toNat (0,0,false,false,false,false,([]:List Int),([]:List AA),0,0,0,0,(U,U,0),([]:List Int))).2).2).2).2).1,((((((z19.getD x1.toNat (0,0,false,false,false,false,([]:List Int),([]:List AA),0,0,0,0,(U,U,0),([]:List Int))).2).2).2).2).2).1,(((((((z19.getD x1.toNat (0,0,false,false,false,false,([]:List Int),([]:List AA),0,0,0,0,(U,U,0),([]:List Int))).2).2).2).2).2).2).1,((((((((z19.getD x1.toNat (0,0,false,false,false,false,([]:List Int),([]:List AA),0,0,0,0,(U,U,0),([]:List Int))).2).2).2).2).2).2).2).1,(((((((((z19.getD x1.toNat (0,0,false,false,false,false,([]:List Int),([]:List AA),0,0,0,0,(U,U,0),([]:List Int))).2).2).2).2).2).2).2).2).1,((((((((((z19.getD x1.toNat (0,0,false,false,false,false,([]:List Int),([]:List AA),0,0,0,0,(U,U,0),([]:List Int))).2).2).2).2).2).2).2).2).2).1,(((((((((((z19.getD x1.toNat (0,0,false,false,false,false,([]:List Int),([]:List AA),0,0,0,0,(U,U,0),([]:List Int))).2).2).2).2).2).2).2).2).2).2).1,((((((((((((z19.getD x1.toNat (0,0,false,false,false,false,([]:List Int),([]:List AA),0,0,0,0,(U,U,0),([]:List Int))).2).2).2).2).2).2).2).2).2).2).2).1,(((((((((((((z19.getD x1.toNat (0,0,false,false,false,false,([]:List Int),([]:List AA),0,0,0,0,(U,U,0),([]:List Int))).2).2).2).2).2).2).2).2).2).2).2).2).1,y20.2); (Fy y20.1 (i64.wrap (x1+1)) z21))) else none) else none)) else none) else none)) else none) else none))) else none) else none))) else none) else none)) else none) else none)) else none) else none)) else none) else none))) else none) else none))) else none) else none)) else none) else none))) else none) else none))) else none) else none))) else none) else none))) else none) else none)) else none) else none) else (some (x0,x2)))
def d_ (x1:Int) (b0:List Z):Option (Int×List Z):=(Fy x1 0 b0)
theorem Na:Jl IS Fy:=lS (by kernel_rfl)
theorem eA:JF d_ LD:=cT Cb rfl ⟨rfl,rfl⟩ (by kernel_rfl)
def iB:=cG RX (AK Dq) (AK Dq) kx
def iC:=kE 0 [] [1] 1 iB kx
def eB:St->Option (RT (BI.outs Dq)):=lG RW [(0,0)] [0,1,5] 1 (AK Dq) iC
def Hv (x0 x1:Int) (x2:List AD):Option (Int×List AD):=eB ⟨[(0,.row 0),(1,.int .i64 x0),(5,.int .i64 x1)],[.mrow 90 Bb x2]⟩
def LZ (x0 x1:Int) (x2:List AD):Option (Int×List AD):=(if (decide (x1<(x2.length:Int)))=true then (if 0<=x1 then (if x1<(x2.length:Int) then (let z1:List AD:=x2.set x1.toNat (x0,(x2.getD x1.toNat (0,0,0,0,0,([]:List AA))).2); (if 0<=x1 then (if x1<(z1.length:Int) then (let z2:List AD:=z1.set x1.toNat ((z1.getD x1.toNat (0,0,0,0,0,([]:List AA))).1,(i64.wrap (x0+1)),((z1.getD x1.toNat (0,0,0,0,0,([]:List AA))).2).2); (if 0<=x1 then (if x1<(z2.length:Int) then (let z3:List AD:=z2.set x1.toNat ((z2.getD x1.toNat (0,0,0,0,0,([]:List AA))).1,((z2.getD x1.toNat (0,0,0,0,0,([]:List AA))).2).1,(i64.wrap ((i64.wrap (x0+1))+1)),(((z2.getD x1.toNat (0,0,0,0,0,([]:List AA))).2).2).2); (if 0<=x1 then (if x1<(z3.length:Int) then (let z4:List AD:=z3.set x1.toNat ((z3.getD x1.toNat (0,0,0,0,0,([]:List AA))).1,((z3.getD x1.toNat (0,0,0,0,0,([]:List AA))).2).1,(((z3.getD x1.toNat (0,0,0,0,0,([]:List AA))).2).2).1,(i64.wrap ((i64.wrap ((i64.wrap (x0+1))+1))+1)),((((z3.getD x1.toNat (0,0,0,0,0,([]:List AA))).2).2).2).2); (if 0<=x1 then (if x1<(z4.length:Int) then (let z5:List AD:=z4.set x1.toNat ((z4.getD x1.toNat (0,0,0,0,0,([]:List AA))).1,((z4.getD x1.toNat (0,0,0,0,0,([]:List AA))).2).1,(((z4.getD x1.toNat (0,0,0,0,0,([]:List AA))).2).2).1,((((z4.getD x1.toNat (0,0,0,0,0,([]:List AA))).2).2).2).1,(i64.wrap ((i64.wrap ((i64.wrap ((i64.wrap (x0+1))+1))+1))+1)),(((((z4.getD x1.toNat (0,0,0,0,0,([]:List AA))).2).2).2).2).2); (if 0<=x1 then (if x1<(z5.length:Int) then ((FZ (i64.wrap ((i64.wrap ((i64.wrap ((i64.wrap ((i64.wrap (x0+1))+1))+1))+1))+1)) ((((((z5.getD x1.toNat (0,0,0,0,0,([]:List AA))).2).2).2).2).2)).bind fun y6=>(let z7:List AD:=z5.set x1.toNat ((z5.getD x1.toNat (0,0,0,0,0,([]:List AA))).1,((z5.getD x1.toNat (0,0,0,0,0,([]:List AA))).2).1,(((z5.getD x1.toNat (0,0,0,0,0,([]:List AA))).2).2).1,((((z5.getD x1.toNat (0,0,0,0,0,([]:List AA))).2).2).2).1,(((((z5.getD x1.toNat (0,0,0,0,0,([]:List AA))).2).2).2).2).1,y6.2); (Hv y6.1 (i64.wrap (x1+1)) z7))) else none) else none)) else none) else none)) else none) else none)) else none) else none)) else none) else none)) else none) else none) else (some (x0,x2)))
def oF (x1:Int) (b0:List AD):Option (Int×List AD):=(Hv x1 0 b0)
theorem SB:Jl LZ Hv:=lS (by kernel_rfl)
theorem oG:JF oF Pd:=cT Dq rfl ⟨rfl,rfl⟩ (by kernel_rfl)

def eC:=cG P3 (AK DC) (AK DC) kx
def eD:=kE 0 [] [1] 1 eC kx
def bY:St->Option (RT (BI.outs DC)):=lG P2 [(0,0)] [0,1,5] 1 (AK DC) eD
def Gw (x0 x1:Int) (x2:List AP):Option (Int×List AP):=bY ⟨[(0,.row 0),(1,.int .i64 x0),(5,.int .i64 x1)],[.mrow 88 Ag x2]⟩
def KI (x0 x1:Int) (x2:List AP):Option (Int×List AP):=(if (decide (x1<(x2.length:Int)))=true then (if 0<=x1 then (if x1<(x2.length:Int) then (let z1:List AP:=x2.set x1.toNat (x0,(x2.getD x1.toNat (0,U,U,0,0,0,0,0,U)).2); ((Aw (i64.wrap (x0+1))).bind fun y2=>(if 0<=x1 then (if x1<(z1.length:Int) then (let z3:List AP:=z1.set x1.toNat ((z1.getD x1.toNat (0,U,U,0,0,0,0,0,U)).1,y2,((z1.getD x1.toNat (0,U,U,0,0,0,0,0,U)).2).2); ((Aw (i64.wrap ((i64.wrap (x0+1))+1))).bind fun y4=>(if 0<=x1 then (if x1<(z3.length:Int) then (let z5:List AP:=z3.set x1.toNat ((z3.getD x1.toNat (0,U,U,0,0,0,0,0,U)).1,((z3.getD x1.toNat (0,U,U,0,0,0,0,0,U)).2).1,y4,(((z3.getD x1.toNat (0,U,U,0,0,0,0,0,U)).2).2).2); (if 0<=x1 then (if x1<(z5.length:Int) then (let z6:List AP:=z5.set x1.toNat ((z5.getD x1.toNat (0,U,U,0,0,0,0,0,U)).1,((z5.getD x1.toNat (0,U,U,0,0,0,0,0,U)).2).1,(((z5.getD x1.toNat (0,U,U,0,0,0,0,0,U)).2).2).1,(i64.wrap ((i64.wrap ((i64.wrap (x0+1))+1))+1)),((((z5.getD x1.toNat (0,U,U,0,0,0,0,0,U)).2).2).2).2); (if 0<=x1 then (if x1<(z6.length:Int) then (let z7:List AP:=z6.set x1.toNat ((z6.getD x1.toNat (0,U,U,0,0,0,0,0,U)).1,((z6.getD x1.toNat (0,U,U,0,0,0,0,0,U)).2).1,(((z6.getD x1.toNat (0,U,U,0,0,0,0,0,U)).2).2).1,((((z6.getD x1.toNat (0,U,U,0,0,0,0,0,U)).2).2).2).1,(i64.wrap ((i64.wrap ((i64.wrap ((i64.wrap (x0+1))+1))+1))+1)),(((((z6.getD x1.toNat (0,U,U,0,0,0,0,0,U)).2).2).2).2).2); (if 0<=x1 then (if x1<(z7.length:Int) then (let z8:List AP:=z7.set x1.toNat ((z7.getD x1.toNat (0,U,U,0,0,0,0,0,U)).1,((z7.getD x1.toNat (0,U,U,0,0,0,0,0,U)).2).1,(((z7.getD x1.toNat (0,U,U,0,0,0,0,0,U)).2).2).1,((((z7.getD x1.toNat (0,U,U,0,0,0,0,0,U)).2).2).2).1,(((((z7.getD x1.toNat (0,U,U,0,0,0,0,0,U)).2).2).2).2).1,(i64.wrap ((i64.wrap ((i64.wrap ((i64.wrap ((i64.wrap (x0+1))+1))+1))+1))+1)),((((((z7.getD x1.toNat (0,U,U,0,0,0,0,0,U)).2).2).2).2).2).2); (if 0<=x1 then (if x1<(z8.length:Int) then (let z9:List AP:=z8.set x1.toNat ((z8.getD x1.toNat (0,U,U,0,0,0,0,0,U)).1,((z8.getD x1.toNat (0,U,U,0,0,0,0,0,U)).2).1,(((z8.getD x1.toNat (0,U,U,0,0,0,0,0,U)).2).2).1,((((z8.getD x1.toNat (0,U,U,0,0,0,0,0,U)).2).2).2).1,(((((z8.getD x1.toNat (0,U,U,0,0,0,0,0,U)).2).2).2).2).1,((((((z8.getD x1.toNat (0,U,U,0,0,0,0,0,U)).2).2).2).2).2).1,(i64.wrap ((i64.wrap ((i64.wrap ((i64.wrap ((i64.wrap ((i64.wrap (x0+1))+1))+1))+1))+1))+1)),(((((((z8.getD x1.toNat (0,U,U,0,0,0,0,0,U)).2).2).2).2).2).2).2); (if 0<=x1 then (if x1<(z9.length:Int) then (let z10:List AP:=z9.set x1.toNat ((z9.getD x1.toNat (0,U,U,0,0,0,0,0,U)).1,((z9.getD x1.toNat (0,U,U,0,0,0,0,0,U)).2).1,(((z9.getD x1.toNat (0,U,U,0,0,0,0,0,U)).2).2).1,((((z9.getD x1.toNat (0,U,U,0,0,0,0,0,U)).2).2).2).1,(((((z9.getD x1.toNat (0,U,U,0,0,0,0,0,U)).2).2).2).2).1,((((((z9.getD x1.toNat (0,U,U,0,0,0,0,0,U)).2).2).2).2).2).1,(((((((z9.getD x1.toNat (0,U,U,0,0,0,0,0,U)).2).2).2).2).2).2).1,(i64.wrap ((i64.wrap ((i64.wrap ((i64.wrap ((i64.wrap ((i64.wrap ((i64.wrap (x0+1))+1))+1))+1))+1))+1))+1)),((((((((z9.getD x1.toNat (0,U,U,0,0,0,0,0,U)).2).2).2).2).2).2).2).2); ((Aw (i64.wrap ((i64.wrap ((i64.wrap ((i64.wrap ((i64.wrap ((i64.wrap ((i64.wrap ((i64.wrap (x0+1))+1))+1))+1))+1))+1))+1))+1))).bind fun y11=>(if 0<=x1 then (if x1<(z10.length:Int) then (let z12:List AP:=z10.set x1.toNat ((z10.getD x1.toNat (0,U,U,0,0,0,0,0,U)).1,((z10.getD x1.toNat (0,U,U,0,0,0,0,0,U)).2).1,(((z10.getD x1.toNat (0,U,U,0,0,0,0,0,U)).2).2).1,((((z10.getD x1.toNat (0,U,U,0,0,0,0,0,U)).2).2).2).1,(((((z10.getD x1.toNat (0,U,U,0,0,0,0,0,U)).2).2).2).2).1,((((((z10.getD x1.toNat (0,U,U,0,0,0,0,0,U)).2).2).2).2).2).1,(((((((z10.getD x1.toNat (0,U,U,0,0,0,0,0,U)).2).2).2).2).2).2).1,((((((((z10.getD x1.toNat (0,U,U,0,0,0,0,0,U)).2).2).2).2).2).2).2).1,y11); (Gw (i64.wrap ((i64.wrap ((i64.wrap ((i64.wrap ((i64.wrap ((i64.wrap ((i64.wrap ((i64.wrap ((i64.wrap (x0+1))+1))+1))+1))+1))+1))+1))+1))+1)) (i64.wrap (x1+1)) z12)) else none) else none))) else none) else none)) else none) else none)) else none) else none)) else none) else none)) else none) else none)) else none) else none))) else none) else none))) else none) else none) else (some (x0,x2)))
def lH (x1:Int) (b0:List AP):Option (Int×List AP):=(Gw x1 0 b0)
theorem QP:Jl KI Gw:=lS (by kernel_rfl)
theorem lI:JF lH N8:=cT DC rfl ⟨rfl,rfl⟩ (by kernel_rfl)
def eE:=cG RZ (AK DD) (AK DD) kx
def eF:=kE 0 [] [1] 0 eE kx
def bZ:St->Option (RT (BI.outs DD)):=lG RY [] [0,1,5] 0 (AK DD) eF
def Gx (x0:List (List Int)) (x1 x2:Int):Option Int:=bZ ⟨[(0,.lst .S x0),(1,.int .i64 x1),(5,.int .i64 x2)],[]⟩
def KJ (x0:List (List Int)) (x1 x2:Int):Option Int:=(if (decide (x2<(x0.length:Int)))=true then (if 0<=x2 then (if x2<(x0.length:Int) then ((Ck (x0.getD x2.toNat ([]:List Int)) x1).bind fun y1=>(if (decide (y1<0))=true then (some (-1:Int)) else (Gx x0 y1 (i64.wrap (x2+1))))) else none) else none) else (some x1))
def lJ (x0:List (List Int)) (x1:Int):Option Int:=(Gx x0 x1 0)
theorem QQ:Jl KJ Gx:=lS (by kernel_rfl)
theorem lK:JF lJ N9:=cT DD rfl ⟨rfl,rfl⟩ (by kernel_rfl)
def Zk:=cG NR (AK Cc) (AK Cc) kx
def Zl:=kE 0 [] [1] 0 Zk kx
def YZ:St->Option (RT (BI.outs Cc)):=lG NQ [] [0,1,5] 0 (AK Cc) Zl
def Fz (x0:List Z) (x1 x2:Int):Option Int:=YZ ⟨[(0,.lst AB x0),(1,.int .i64 x1),(5,.int .i64 x2)],[]⟩
def IT (x0:List Z) (x1 x2:Int):Option Int:=(if (decide (x2<(x0.length:Int)))=true then (if 0<=x2 then (if x2<(x0.length:Int) then (if (((x0.getD x2.toNat (0,0,false,false,false,false,([]:List Int),([]:List AA),0,0,0,0,(U,U,0),([]:List Int))).1) != x1)=true then (some (-1:Int)) else (if 0<=x2 then (if x2<(x0.length:Int) then (if ((((x0.getD x2.toNat (0,0,false,false,false,false,([]:List Int),([]:List AA),0,0,0,0,(U,U,0),([]:List Int))).2).1) != (i64.wrap (x1+1)))=true then (some (-1:Int)) else (if 0<=x2 then (if x2<(x0.length:Int) then (if 3=0 then none else (if (true != MA .bool ((((x0.getD x2.toNat (0,0,false,false,false,false,([]:List Int),([]:List AA),0,0,0,0,(U,U,0),([]:List Int))).2).2).1) ((Int.tmod (i64.wrap ((i64.wrap (x1+1))+1)) 3)==0))=true then (some (-1:Int)) else (if 0<=x2 then (if x2<(x0.length:Int) then (if 3=0 then none else (if (true != MA .bool (((((x0.getD x2.toNat (0,0,false,false,false,false,([]:List Int),([]:List AA),0,0,0,0,(U,U,0),([]:List Int))).2).2).2).1) ((Int.tmod (i64.wrap ((i64.wrap ((i64.wrap (x1+1))+1))+1)) 3)==0))=true then (some (-1:Int)) else (if 0<=x2 then (if x2<(x0.length:Int) then (if 3=0 then none else (if (true != MA .bool ((((((x0.getD x2.toNat (0,0,false,false,false,false,([]:List Int),([]:List AA),0,0,0,0,(U,U,0),([]:List Int))).2).2).2).2).1) ((Int.tmod (i64.wrap ((i64.wrap ((i64.wrap ((i64.wrap (x1+1))+1))+1))+1)) 3)==0))=true then (some (-1:Int)) else (if 0<=x2 then (if x2<(x0.length:Int) then (if 3=0 then none else (if (true != MA .bool (((((((x0.getD x2.toNat (0,0,false,false,false,false,([]:List Int),([]:List AA),0,0,0,0,(U,U,0),([]:List Int))).2).2).2).2).2).1) ((Int.tmod (i64.wrap ((i64.wrap ((i64.wrap ((i64.wrap ((i64.wrap (x1+1))+1))+1))+1))+1)) 3)==0))=true then (some (-1:Int)) else (if 0<=x2 then (if x2<(x0.length:Int) then ((Ck ((((((((x0.getD x2.toNat (0,0,false,false,false,false,([]:List Int),([]:List AA),0,0,0,0,(U,U,0),([]:List Int))).2).2).2).2).2).2).1) (i64.wrap ((i64.wrap ((i64.wrap ((i64.wrap ((i64.wrap ((i64.wrap (x1+1))+1))+1))+1))+1))+1))).bind fun y1=>(if (decide (y1<0))=true then (some (-1:Int)) else (if 0<=x2 then (if x2<(x0.length:Int) then ((Fa (((((((((x0.getD x2.toNat (0,0,false,false,false,false,([]:List Int),([]:List AA),0,0,0,0,(U,U,0),([]:List Int))).2).2).2).2).2).2).2).1) y1).bind fun y2=>(if (decide (y2<0))=true then (some (-1:Int)) else (if 0<=x2 then (if x2<(x0.length:Int) then (if (((((((((((x0.getD x2.toNat (0,0,false,false,false,false,([]:List Int),([]:List AA),0,0,0,0,(U,U,0),([]:List Int))).2).2).2).2).2).2).2).2).1) != y2)=true then (some (-1:Int)) else (if 0<=x2 then (if x2<(x0.length:Int) then (if ((((((((((((x0.getD x2.toNat (0,0,false,false,false,false,([]:List Int),([]:List AA),0,0,0,0,(U,U,0),([]:List Int))).2).2).2).2).2).2).2).2).2).1) != (i64.wrap (y2+1)))=true then (some (-1:Int)) else (if 0<=x2 then (if x2<(x0.length:Int) then (if (((((((((((((x0.getD x2.toNat (0,0,false,false,false,false,([]:List Int),([]:List AA),0,0,0,0,(U,U,0),([]:List Int))).2).2).2).2).2).2).2).2).2).2).1) != (i64.wrap ((i64.wrap (y2+1))+1)))=true then (some (-1:Int)) else (if 0<=x2 then (if x2<(x0.length:Int) then (if ((((((((((((((x0.getD x2.toNat (0,0,false,false,false,false,([]:List Int),([]:List AA),0,0,0,0,(U,U,0),([]:List Int))).2).2).2).2).2).2).2).2).2).2).2).1) != (i64.wrap ((i64.wrap ((i64.wrap (y2+1))+1))+1)))=true then (some (-1:Int)) else (if 0<=x2 then (if x2<(x0.length:Int) then ((Aw (i64.wrap ((i64.wrap ((i64.wrap ((i64.wrap (y2+1))+1))+1))+1))).bind fun y3=>(if (!((((((((((((((((x0.getD x2.toNat (0,0,false,false,false,false,([]:List Int),([]:List AA),0,0,0,0,(U,U,0),([]:List Int))).2).2).2).2).2).2).2).2).2).2).2).2).1).1).toList==y3.toList))=true then (some (-1:Int)) else (if 0<=x2 then (if x2<(x0.length:Int) then ((Aw (i64.wrap ((i64.wrap ((i64.wrap ((i64.wrap ((i64.wrap (y2+1))+1))+1))+1))+1))).bind fun y4=>(if (!(((((((((((((((((x0.getD x2.toNat (0,0,false,false,false,false,([]:List Int),([]:List AA),0,0,0,0,(U,U,0),([]:List Int))).2).2).2).2).2).2).2).2).2).2).2).2).1).2).1).toList==y4.toList))=true then (some (-1:Int)) else (if 0<=x2 then (if x2<(x0.length:Int) then (if (((((((((((((((((x0.getD x2.toNat (0,0,false,false,false,false,([]:List Int),([]:List AA),0,0,0,0,(U,U,0),([]:List Int))).2).2).2).2).2).2).2).2).2).2).2).2).1).2).2) != (i64.wrap ((i64.wrap ((i64.wrap ((i64.wrap ((i64.wrap ((i64.wrap (y2+1))+1))+1))+1))+1))+1)))=true then (some (-1:Int)) else (if 0<=x2 then (if x2<(x0.length:Int) then ((Ck ((((((((((((((x0.getD x2.toNat (0,0,false,false,false,false,([]:List Int),([]:List AA),0,0,0,0,(U,U,0),([]:List Int))).2).2).2).2).2).2).2).2).2).2).2).2).2) (i64.wrap ((i64.wrap ((i64.wrap ((i64.wrap ((i64.wrap ((i64.wrap ((i64.wrap (y2+1))+1))+1))+1))+1))+1))+1))).bind fun y5=>(if (decide (y5<0))=true then (some (-1:Int)) else (Fz x0 y5 (i64.wrap (x2+1))))) else none) else none)) else none) else none))) else none) else none))) else none) else none)) else none) else none)) else none) else none)) else none) else none)) else none) else none))) else none) else none))) else none) else none))) else none) else none))) else none) else none))) else none) else none))) else none) else none)) else none) else none)) else none) else none) else (some x1))
def eG (x0:List Z) (x1:Int):Option Int:=(Fz x0 x1 0)
theorem Nb:Jl IT Fz:=lS (by kernel_rfl)
theorem eH:JF eG LE:=cT Cc rfl ⟨rfl,rfl⟩ (by kernel_rfl)
def iD:=cG Rb (AK Dr) (AK Dr) kx
def iE:=kE 0 [] [1] 0 iD kx
def eI:St->Option (RT (BI.outs Dr)):=lG Ra [] [0,1,5] 0 (AK Dr) iE
def Hw (x0:List AD) (x1 x2:Int):Option Int:=eI ⟨[(0,.lst AI x0),(1,.int .i64 x1),(5,.int .i64 x2)],[]⟩
def La (x0:List AD) (x1 x2:Int):Option Int:=(if (decide (x2<(x0.length:Int)))=true then (if 0<=x2 then (if x2<(x0.length:Int) then (if (((x0.getD x2.toNat (0,0,0,0,0,([]:List AA))).1) != x1)=true then (some (-1:Int)) else (if 0<=x2 then (if x2<(x0.length:Int) then (if ((((x0.getD x2.toNat (0,0,0,0,0,([]:List AA))).2).1) != (i64.wrap (x1+1)))=true then (some (-1:Int)) else (if 0<=x2 then (if x2<(x0.length:Int) then (if (((((x0.getD x2.toNat (0,0,0,0,0,([]:List AA))).2).2).1) != (i64.wrap ((i64.wrap (x1+1))+1)))=true then (some (-1:Int)) else (if 0<=x2 then (if x2<(x0.length:Int) then (if ((((((x0.getD x2.toNat (0,0,0,0,0,([]:List AA))).2).2).2).1) != (i64.wrap ((i64.wrap ((i64.wrap (x1+1))+1))+1)))=true then (some (-1:Int)) else (if 0<=x2 then (if x2<(x0.length:Int) then (if (((((((x0.getD x2.toNat (0,0,0,0,0,([]:List AA))).2).2).2).2).1) != (i64.wrap ((i64.wrap ((i64.wrap ((i64.wrap (x1+1))+1))+1))+1)))=true then (some (-1:Int)) else (if 0<=x2 then (if x2<(x0.length:Int) then ((Fa ((((((x0.getD x2.toNat (0,0,0,0,0,([]:List AA))).2).2).2).2).2) (i64.wrap ((i64.wrap ((i64.wrap ((i64.wrap ((i64.wrap (x1+1))+1))+1))+1))+1))).bind fun y1=>(if (decide (y1<0))=true then (some (-1:Int)) else (Hw x0 y1 (i64.wrap (x2+1))))) else none) else none)) else none) else none)) else none) else none)) else none) else none)) else none) else none)) else none) else none) else (some x1))
def oH (x0:List AD) (x1:Int):Option Int:=(Hw x0 x1 0)
theorem SC:Jl La Hw:=lS (by kernel_rfl)
theorem oI:JF oH Pe:=cT Dr rfl ⟨rfl,rfl⟩ (by kernel_rfl)
def eJ:=cG P5 (AK DE) (AK DE) kx
def eK:=kE 0 [] [1] 0 eJ kx
def ba:St->Option (RT (BI.outs DE)):=lG P4 [] [0,1,5] 0 (AK DE) eK
def Gy (x0:List AP) (x1 x2:Int):Option Int:=ba ⟨[(0,.lst Ag x0),(1,.int .i64 x1),(5,.int .i64 x2)],[]⟩
def KK (x0:List AP) (x1 x2:Int):Option Int:=(if (decide (x2<(x0.length:Int)))=true then (if 0<=x2 then (if x2<(x0.length:Int) then (if (((x0.getD x2.toNat (0,U,U,0,0,0,0,0,U)).1) != x1)=true then (some (-1:Int)) else (if 0<=x2 then (if x2<(x0.length:Int) then ((Aw (i64.wrap (x1+1))).bind fun y1=>(if (!((((x0.getD x2.toNat (0,U,U,0,0,0,0,0,U)).2).1).toList==y1.toList))=true then (some (-1:Int)) else (if 0<=x2 then (if x2<(x0.length:Int) then ((Aw (i64.wrap ((i64.wrap (x1+1))+1))).bind fun y2=>(if (!(((((x0.getD x2.toNat (0,U,U,0,0,0,0,0,U)).2).2).1).toList==y2.toList))=true then (some (-1:Int)) else (if 0<=x2 then (if x2<(x0.length:Int) then (if ((((((x0.getD x2.toNat (0,U,U,0,0,0,0,0,U)).2).2).2).1) != (i64.wrap ((i64.wrap ((i64.wrap (x1+1))+1))+1)))=true then (some (-1:Int)) else (if 0<=x2 then (if x2<(x0.length:Int) then (if (((((((x0.getD x2.toNat (0,U,U,0,0,0,0,0,U)).2).2).2).2).1) != (i64.wrap ((i64.wrap ((i64.wrap ((i64.wrap (x1+1))+1))+1))+1)))=true then (some (-1:Int)) else (if 0<=x2 then (if x2<(x0.length:Int) then (if ((((((((x0.getD x2.toNat (0,U,U,0,0,0,0,0,U)).2).2).2).2).2).1) != (i64.wrap ((i64.wrap ((i64.wrap ((i64.wrap ((i64.wrap (x1+1))+1))+1))+1))+1)))=true then (some (-1:Int)) else (if 0<=x2 then (if x2<(x0.length:Int) then (if (((((((((x0.getD x2.toNat (0,U,U,0,0,0,0,0,U)).2).2).2).2).2).2).1) != (i64.wrap ((i64.wrap ((i64.wrap ((i64.wrap ((i64.wrap ((i64.wrap (x1+1))+1))+1))+1))+1))+1)))=true then (some (-1:Int)) else (if 0<=x2 then (if x2<(x0.length:Int) then (if ((((((((((x0.getD x2.toNat (0,U,U,0,0,0,0,0,U)).2).2).2).2).2).2).2).1) != (i64.wrap ((i64.wrap ((i64.wrap ((i64.wrap ((i64.wrap ((i64.wrap ((i64.wrap (x1+1))+1))+1))+1))+1))+1))+1)))=true then (some (-1:Int)) else (if 0<=x2 then (if x2<(x0.length:Int) then ((Aw (i64.wrap ((i64.wrap ((i64.wrap ((i64.wrap ((i64.wrap ((i64.wrap ((i64.wrap ((i64.wrap (x1+1))+1))+1))+1))+1))+1))+1))+1))).bind fun y3=>(if (!((((((((((x0.getD x2.toNat (0,U,U,0,0,0,0,0,U)).2).2).2).2).2).2).2).2).toList==y3.toList))=true then (some (-1:Int)) else (Gy x0 (i64.wrap ((i64.wrap ((i64.wrap ((i64.wrap ((i64.wrap ((i64.wrap ((i64.wrap ((i64.wrap ((i64.wrap (x1+1))+1))+1))+1))+1))+1))+1))+1))+1)) (i64.wrap (x2+1))))) else none) else none)) else none) else none)) else none) else none)) else none) else none)) else none) else none)) else none) else none))) else none) else none))) else none) else none)) else none) else none) else (some x1))
def lL (x0:List AP) (x1:Int):Option Int:=(Gy x0 x1 0)
theorem QR:Jl KK Gy:=lS (by kernel_rfl)
theorem lM:JF lL N_:=cT DE rfl ⟨rfl,rfl⟩ (by kernel_rfl)
def lN:=cG VD (AK EP) (AK EP) kx
def lO:=kE 0 [] [0] 0 lN kx
def iF:St->Option (RT (BI.outs EP)):=lG U_ [] [0,3] 0 (AK EP) lO
def Il (x0:List (List Int)) (x1:Int):Option Bool:=iF ⟨[(0,.lst .S x0),(3,.int .i64 x1)],[]⟩
def Mx (x0:List (List Int)) (x1:Int):Option Bool:=(if (decide (x1<(x0.length:Int)))=true then (if 0<=x1 then (if x1<(x0.length:Int) then ((Rs (x0.getD x1.toNat ([]:List Int))).bind fun y1=>(if (!y1)=true then (some false) else (Il x0 (i64.wrap (x1+1))))) else none) else none) else ((Ab (x0.length:Int) 1 9).bind fun y2=>(some y2)))
def Zm (x0:List (List Int)):Option Bool:=(Il x0 0)
theorem Tg:JF Mx Il:=lS (by kernel_rfl)
theorem rT:SU Zm EV:=cT EP rfl ⟨rfl,rfl⟩ (by kernel_rfl)
def Ya:=cG NT (AK CT) (AK CT) kx
def Yb:=kE 0 [(3,0)] [3] 1 Ya kx
def Wp:St->Option (RT (BI.outs CT)):=lG NS [(3,0)] [0,3,4] 1 (AK CT) Yb
def E8 (x0:List (List Int)) (x1:Int) (x2:List (List Int)):Option (List (List Int)):=Wp ⟨[(0,.lst .S x0),(3,.row 0),(4,.int .i64 x1)],[.rows 31 .S x2]⟩
def Hx (x0:List (List Int)) (x1:Int) (x2:List (List Int)):Option (List (List Int)):=(if (decide (x1<(x0.length:Int)))=true then (if 0<=x1 then (if x1<(x0.length:Int) then (if ([]:List Int).length+(x0.getD x1.toNat ([]:List Int)).length<=68719476736 then (if x2.length+([(([]:List Int)++(x0.getD x1.toNat ([]:List Int)))]:List (List Int)).length<=68719476736 then (E8 x0 (i64.wrap (x1+1)) (x2++([(([]:List Int)++(x0.getD x1.toNat ([]:List Int)))]:List (List Int)))) else none) else none) else none) else none) else (some x2))
def QS (x0:List (List Int)):Option (List (List Int)):=(E8 x0 0 ([]:List (List Int)))
theorem My:Jl Hx E8:=lS (by kernel_rfl)
theorem bc:SU QS Gt:=cT CT rfl ⟨rfl,rfl⟩ (by kernel_rfl)
def QT (x0:Int) (x1:List (List Int)) (x2:Bool) (x3:Z):Option (Z×Bool):=cG Rc (AK FW) (AK FW) kx ⟨[(0,.int .i64 x0),(1,.lst .S x1),(4,.ptr 0 0),(14,.bool x2)],[.var (AB.enc x3)]⟩
def QU (x0:Int) (x1:List (List Int)) (x2:Bool) (x3:Z):Option (Z×Bool):=(if 0<=(0:Int) then (if 0<(x1.length:Int) then ((E5 (x1.getD (0:Int).toNat ([]:List Int)) x0).bind fun y3=>(if 0<=(0:Int) then (if 0<(x1.length:Int) then (if 0<=(0:Int) then (if 0<((x1.getD (0:Int).toNat ([]:List Int)).length:Int) then (some ((x0,1,false,y3,(((x1.getD (0:Int).toNat ([]:List Int)).getD (0:Int).toNat 0)==x0),(((x1.getD (0:Int).toNat ([]:List Int)).getD (0:Int).toNat 0)==x0),([]:List Int),([]:List AA),0,0,0,0,(U,U,0),([]:List Int)),true)) else none) else none) else none) else none)) else none) else none)
def Ve (x0:Int) (x1:List (List Int)):Option (Z×Bool):=((EV x1).bind fun y1=>(if (!y1)=false then ((Ab x0 1 6).bind fun y2=>(if (!y2)=true then (some ((0,0,false,false,false,false,([]:List Int),([]:List AA),0,0,0,0,(U,U,0),([]:List Int)),false)) else (QT x0 x1 (!y2) (0,0,false,false,false,false,([]:List Int),([]:List AA),0,0,0,0,(U,U,0),([]:List Int))))) else (some ((0,0,false,false,false,false,([]:List Int),([]:List AA),0,0,0,0,(U,U,0),([]:List Int)),false))))
theorem bd:so QU QT:=jS (by kernel_rfl)
theorem lP:JF Ve OA:=cT FW rfl ⟨rfl,rfl⟩ (by kernel_rfl)
def iG (x0 x1 x2:Int):Option Bool:=(if (decide (x0>=x1))=true then (some (decide (x0<=x2))) else (some false))
theorem vF:Jl iG Ab:=cT Qr rfl ⟨rfl,rfl⟩ (by kernel_rfl)
def Xw (x1:Int) (x2:AQ) (b0:AL):Option (Int×AL):=(if ([]:List AP).length+b0.2.2.2.length<=68719476736 then (if (([]:List AP)++b0.2.2.2).length+([(x2.2.2.2.1,x2.2.2.2.2.1,x2.2.2.2.2.2,x1,(-1:Int),0,0,0,U)]:List AP).length<=68719476736 then (if 0<=(i64.wrap (x2.2.1-1)) then (if (i64.wrap (x2.2.1-1))<(b0.2.1.length:Int) then ((Wk (b0.2.1.getD (i64.wrap (x2.2.1-1)).toNat (0,0,false,false,false,false,([]:List Int),([]:List AA),0,0,0,0,(U,U,0),([]:List Int))) b0.1 x2.2.2.2.1 (i64.wrap ((((([]:List AP)++b0.2.2.2)++([(x2.2.2.2.1,x2.2.2.2.2.1,x2.2.2.2.2.2,x1,(-1:Int),0,0,0,U)]:List AP)).length:Int)-1)) x2.2.2.2.2.1 x2.2.2.2.2.2).bind fun y1=>(if (!y1.2.2.2)=true then (some (1,(b0.1,b0.2.1,b0.2.2.1,((([]:List AP)++b0.2.2.2)++([(x2.2.2.2.1,x2.2.2.2.2.1,x2.2.2.2.2.2,x1,(-1:Int),0,0,0,U)]:List AP))))) else ((FY y1.1 y1.2.1 y1.2.2.1 x1 (b0.1,b0.2.1,b0.2.2.1,((([]:List AP)++b0.2.2.2)++([(x2.2.2.2.1,x2.2.2.2.2.1,x2.2.2.2.2.2,x1,(-1:Int),0,0,0,U)]:List AP)))).bind fun y2=>(some (0,y2))))) else none) else none) else none) else none)
theorem oJ:Jl Xw Pf:=cT Kp rfl ⟨rfl,rfl⟩ (by kernel_rfl)
def iH:=cG Rd (AK Ds) (AK Ds) kx
def iI:=kE 0 [] [] 2 iH kx
def eL:St->Option (RT (BI.outs Ds)):=lG S_ [] [0,1,2,7,8] 2 (AK Ds) iI
def Hy (x0 x1 x2:Int) (x3:AL) (x4:Z):Option (Int×AL):=eL ⟨[(0,.ptr 0 0),(1,.int .i64 x0),(2,.int .i64 x1),(7,.ptr 1 0),(8,.int .i64 x2)],[.var (Ao.enc x3),.var (AB.enc x4)]⟩
def Hz (x0 x1 x2:Int) (x3:AL) (x4:Z):Option (Int×AL):=(if (decide (x2<=(x3.1.length:Int)))=true then (if 0<=(i64.wrap (x2-1)) then (if (i64.wrap (x2-1))<(x3.1.length:Int) then (if 0<=(0:Int) then (if 0<((x3.1.getD (i64.wrap (x2-1)).toNat ([]:List Int)).length:Int) then (if (((x3.1.getD (i64.wrap (x2-1)).toNat ([]:List Int)).getD (0:Int).toNat 0) != x1)=true then (Hy x0 x1 (i64.wrap (x2+1)) x3 x4) else ((Wl x4 x3.1 x2).bind fun y1=>(if (!y1.2.2)=true then (some (1,x3)) else ((FY y1.1 y1.2.1 ([]:List AM) x0 x3).bind fun y2=>(some (0,y2)))))) else none) else none) else none) else none) else (some (1,x3)))
def Po (x1 x2:Int) (b0:AL):Option (Int×AL):=(if 0<=(i64.wrap (x2-1)) then (if (i64.wrap (x2-1))<(b0.2.1.length:Int) then (Hy x1 x2 (i64.wrap ((((b0.2.1.getD (i64.wrap (x2-1)).toNat (0,0,false,false,false,false,([]:List Int),([]:List AA),0,0,0,0,(U,U,0),([]:List Int))).2).1)+1)) b0 (b0.2.1.getD (i64.wrap (x2-1)).toNat (0,0,false,false,false,false,([]:List Int),([]:List AA),0,0,0,0,(U,U,0),([]:List Int)))) else none) else none)
theorem Lb:xw Hz Hy:=lS (by kernel_rfl)
theorem Xx:Jl Po Pg:=cT Ds rfl ⟨rfl,rfl⟩ (by kernel_rfl)
def Lc:=kE 0 [] [] 4 (AK Cl) kx
def QV:St->Option (RT (BI.outs Cl)):=lG P8 [] [0,3,4,11] 4 (AK Cl) Lc
def eM:=kB [] [0,3,4,11] 4 QV
def SD:=cG P7 eM (AK Cl) Lc
def eN:=kB [] [0,3,4,11] 4 SD
def eO:=kE 1 [] [0,3,4,11] 4 SD Lc
def QW (x0:List AM) (x1 x2:Int) (x3:Bool) (x4:AL) (x5:Z) (x6:List Z) (x7:List AD) (x8:AM):Option AL:=cG P6 eN (AK Cl) eO ⟨[(0,.ptr 0 0),(3,.lst BD x0),(4,.int .i64 x1),(11,.int .i64 x2),(12,.ptr 4 0),(71,.bool x3)],[.var (Ao.enc x4),.var (AB.enc x5),.frz AB x6,.frz AI x7,.var (BD.enc x8)]⟩
def Cq (x0:List AM) (x1 x2:Int) (x3:AL) (x4:Z) (x5:List Z) (x6:List AD):Option AL:=QV ⟨[(0,.ptr 0 0),(3,.lst BD x0),(4,.int .i64 x1),(11,.int .i64 x2)],[.var (Ao.enc x3),.var (AB.enc x4),.frz AB x5,.frz AI x6]⟩
def QX (x0:List AM) (x1 x2:Int) (x3:Bool) (x4:AL) (x5:Z) (x6:List Z) (x7:List AD) (x8:AM):Option AL:=(if ([]:List AP).length+x4.2.2.2.length<=68719476736 then (if 0<=x8.1 then (if x8.1<((([]:List AP)++x4.2.2.2).length:Int) then (let z2:List AP:=(([]:List AP)++x4.2.2.2).set x8.1.toNat (((([]:List AP)++x4.2.2.2).getD x8.1.toNat (0,U,U,0,0,0,0,0,U)).1,(((([]:List AP)++x4.2.2.2).getD x8.1.toNat (0,U,U,0,0,0,0,0,U)).2).1,((((([]:List AP)++x4.2.2.2).getD x8.1.toNat (0,U,U,0,0,0,0,0,U)).2).2).1,(((((([]:List AP)++x4.2.2.2).getD x8.1.toNat (0,U,U,0,0,0,0,0,U)).2).2).2).1,x1,((((((([]:List AP)++x4.2.2.2).getD x8.1.toNat (0,U,U,0,0,0,0,0,U)).2).2).2).2).2); (let z3:List AP:=z2.set x8.1.toNat ((z2.getD x8.1.toNat (0,U,U,0,0,0,0,0,U)).1,((z2.getD x8.1.toNat (0,U,U,0,0,0,0,0,U)).2).1,(((z2.getD x8.1.toNat (0,U,U,0,0,0,0,0,U)).2).2).1,((((z2.getD x8.1.toNat (0,U,U,0,0,0,0,0,U)).2).2).2).1,(((((z2.getD x8.1.toNat (0,U,U,0,0,0,0,0,U)).2).2).2).2).1,x8.2.2.2.2.2,((((((z2.getD x8.1.toNat (0,U,U,0,0,0,0,0,U)).2).2).2).2).2).2); (let z4:List AP:=z3.set x8.1.toNat ((z3.getD x8.1.toNat (0,U,U,0,0,0,0,0,U)).1,((z3.getD x8.1.toNat (0,U,U,0,0,0,0,0,U)).2).1,(((z3.getD x8.1.toNat (0,U,U,0,0,0,0,0,U)).2).2).1,((((z3.getD x8.1.toNat (0,U,U,0,0,0,0,0,U)).2).2).2).1,(((((z3.getD x8.1.toNat (0,U,U,0,0,0,0,0,U)).2).2).2).2).1,((((((z3.getD x8.1.toNat (0,U,U,0,0,0,0,0,U)).2).2).2).2).2).1,x8.2.1,(((((((z3.getD x8.1.toNat (0,U,U,0,0,0,0,0,U)).2).2).2).2).2).2).2); (let z5:List AP:=z4.set x8.1.toNat ((z4.getD x8.1.toNat (0,U,U,0,0,0,0,0,U)).1,((z4.getD x8.1.toNat (0,U,U,0,0,0,0,0,U)).2).1,(((z4.getD x8.1.toNat (0,U,U,0,0,0,0,0,U)).2).2).1,((((z4.getD x8.1.toNat (0,U,U,0,0,0,0,0,U)).2).2).2).1,(((((z4.getD x8.1.toNat (0,U,U,0,0,0,0,0,U)).2).2).2).2).1,((((((z4.getD x8.1.toNat (0,U,U,0,0,0,0,0,U)).2).2).2).2).2).1,(((((((z4.getD x8.1.toNat (0,U,U,0,0,0,0,0,U)).2).2).2).2).2).2).1,x8.2.2.1,((((((((z4.getD x8.1.toNat (0,U,U,0,0,0,0,0,U)).2).2).2).2).2).2).2).2); (if (((z5.getD x8.1.toNat (0,U,U,0,0,0,0,0,U)).1)==2)=true then (let z6:List AP:=z5.set x8.1.toNat ((z5.getD x8.1.toNat (0,U,U,0,0,0,0,0,U)).1,((z5.getD x8.1.toNat (0,U,U,0,0,0,0,0,U)).2).1,(((z5.getD x8.1.toNat (0,U,U,0,0,0,0,0,U)).2).2).1,((((z5.getD x8.1.toNat (0,U,U,0,0,0,0,0,U)).2).2).2).1,(((((z5.getD x8.1.toNat (0,U,U,0,0,0,0,0,U)).2).2).2).2).1,((((((z5.getD x8.1.toNat (0,U,U,0,0,0,0,0,U)).2).2).2).2).2).1,(((((((z5.getD x8.1.toNat (0,U,U,0,0,0,0,0,U)).2).2).2).2).2).2).1,((((((((z5.getD x8.1.toNat (0,U,U,0,0,0,0,0,U)).2).2).2).2).2).2).2).1,x8.2.2.2.2.1); (Cq x0 x1 (i64.wrap (x2+1)) (x4.1,x4.2.1,x4.2.2.1,z6) x5 x6 x7)) else (Cq x0 x1 (i64.wrap (x2+1)) (x4.1,x4.2.1,x4.2.2.1,z5) x5 x6 x7)))))) else none) else none) else none)
def KL (x0:List AM) (x1 x2:Int) (x3:AL) (x4:Z) (x5:List Z) (x6:List AD):Option AL:=(if (decide (x2<(x0.length:Int)))=true then (if 0<=x2 then (if x2<(x0.length:Int) then (if (decide (((x0.getD x2.toNat (0,0,0,U,U,0)).1)>=(x3.2.2.2.length:Int)))=true then (Cq x0 x1 (i64.wrap (x2+1)) x3 x4 x5 x6) else (if 0<=((x0.getD x2.toNat (0,0,0,U,U,0)).1) then (if ((x0.getD x2.toNat (0,0,0,U,U,0)).1)<(x3.2.2.2.length:Int) then (if (decide (((((((x3.2.2.2.getD ((x0.getD x2.toNat (0,0,0,U,U,0)).1).toNat (0,U,U,0,0,0,0,0,U)).2).2).2).2).1)>=0))=true then (Cq x0 x1 (i64.wrap (x2+1)) x3 x4 x5 x6) else (QW x0 x1 x2 (decide (((((((x3.2.2.2.getD ((x0.getD x2.toNat (0,0,0,U,U,0)).1).toNat (0,U,U,0,0,0,0,0,U)).2).2).2).2).1)>=0)) x3 x4 x5 x6 (x0.getD x2.toNat (0,0,0,U,U,0)))) else none) else none)) else none) else none) else (some x3))
def Vf (x1:Z) (x2:List AD) (x3:List AM) (x4:Int) (b0:AL):Option AL:=(if ([]:List Z).length+b0.2.1.length<=68719476736 then (if 0<=(i64.wrap (x1.1-1)) then (if (i64.wrap (x1.1-1))<((([]:List Z)++b0.2.1).length:Int) then (let z1:List Z:=(([]:List Z)++b0.2.1).set ((i64.wrap (x1.1-1)).toNat) x1; (if ([]:List AD).length+b0.2.2.1.length<=68719476736 then (if (([]:List AD)++b0.2.2.1).length+x2.length<=68719476736 then (Cq x3 x4 0 (b0.1,z1,((([]:List AD)++b0.2.2.1)++x2),b0.2.2.2) x1 z1 ((([]:List AD)++b0.2.2.1)++x2)) else none) else none)) else none) else none) else none)
theorem be:Le9 QX QW:=jS (by kernel_rfl)
theorem QY:Le7 KL Cq:=lS (by kernel_rfl)
theorem lQ:xw Vf FY:=cT Cl rfl ⟨rfl,rfl⟩ (by kernel_rfl)
def wo (x0:Z):Option Z:=(some (x0.1,x0.2.1,true,false,false,false,([]:List Int),([]:List AA),0,0,0,0,(U,U,0),([]:List Int)))
theorem wr:SU wo Za:=cT TA rfl ⟨rfl,rfl⟩ (by kernel_rfl)
def UU (x1:Int) (x2:AQ) (b0:AL):Option (Int×AL):=(if ((b0.2.2.1.length:Int)==0)=true then (some (1,b0)) else (if (b0.2.2.1.length:Int)=0 then none else (if 0<=(Int.tmod x2.2.2.1 (b0.2.2.1.length:Int)) then (if (Int.tmod x2.2.2.1 (b0.2.2.1.length:Int))<(b0.2.2.1.length:Int) then (if (x2.1==4)=true then (if ([]:List AD).length+b0.2.2.1.length<=68719476736 then (if (([]:List AD)++b0.2.2.1).length+([b0.2.2.1.getD (Int.tmod x2.2.2.1 (b0.2.2.1.length:Int)).toNat (0,0,0,0,0,([]:List AA))]:List AD).length<=68719476736 then (some (0,(b0.1,b0.2.1,((([]:List AD)++b0.2.2.1)++([b0.2.2.1.getD (Int.tmod x2.2.2.1 (b0.2.2.1.length:Int)).toNat (0,0,0,0,0,([]:List AA))]:List AD)),b0.2.2.2))) else none) else none) else (if 0<=(0:Int) then (if 0<=(Int.tmod x2.2.2.1 (b0.2.2.1.length:Int)) then (if (Int.tmod x2.2.2.1 (b0.2.2.1.length:Int))<=(b0.2.2.1.length:Int) then (if 0<=(i64.wrap ((Int.tmod x2.2.2.1 (b0.2.2.1.length:Int))+1)) then (if (i64.wrap ((Int.tmod x2.2.2.1 (b0.2.2.1.length:Int))+1))<=(b0.2.2.1.length:Int) then (if (b0.2.2.1.length:Int)<=(b0.2.2.1.length:Int) then (if ([]:List AD).length+((b0.2.2.1.take (Int.tmod x2.2.2.1 (b0.2.2.1.length:Int)).toNat).drop (0:Int).toNat).length<=68719476736 then (if (([]:List AD)++((b0.2.2.1.take (Int.tmod x2.2.2.1 (b0.2.2.1.length:Int)).toNat).drop (0:Int).toNat)).length+((b0.2.2.1.take (b0.2.2.1.length:Int).toNat).drop (i64.wrap ((Int.tmod x2.2.2.1 (b0.2.2.1.length:Int))+1)).toNat).length<=68719476736 then (if (x2.1==3)=true then (some (0,(b0.1,b0.2.1,((([]:List AD)++((b0.2.2.1.take (Int.tmod x2.2.2.1 (b0.2.2.1.length:Int)).toNat).drop (0:Int).toNat))++((b0.2.2.1.take (b0.2.2.1.length:Int).toNat).drop (i64.wrap ((Int.tmod x2.2.2.1 (b0.2.2.1.length:Int))+1)).toNat)),b0.2.2.2))) else (if 0<=(i64.wrap (((((b0.2.2.1.getD (Int.tmod x2.2.2.1 (b0.2.2.1.length:Int)).toNat (0,0,0,0,0,([]:List AA))).2).2).1)-1)) then (if (i64.wrap (((((b0.2.2.1.getD (Int.tmod x2.2.2.1 (b0.2.2.1.length:Int)).toNat (0,0,0,0,0,([]:List AA))).2).2).1)-1))<(b0.2.1.length:Int) then ((Rt (b0.2.1.getD (i64.wrap (((((b0.2.2.1.getD (Int.tmod x2.2.2.1 (b0.2.2.1.length:Int)).toNat (0,0,0,0,0,([]:List AA))).2).2).1)-1)).toNat (0,0,false,false,false,false,([]:List Int),([]:List AA),0,0,0,0,(U,U,0),([]:List Int))) b0.1 (b0.2.2.1.getD (Int.tmod x2.2.2.1 (b0.2.2.1.length:Int)).toNat (0,0,0,0,0,([]:List AA)))).bind fun y1=>((FY y1.1 y1.2.1 y1.2.2 x1 (b0.1,b0.2.1,((([]:List AD)++((b0.2.2.1.take (Int.tmod x2.2.2.1 (b0.2.2.1.length:Int)).toNat).drop (0:Int).toNat))++((b0.2.2.1.take (b0.2.2.1.length:Int).toNat).drop (i64.wrap ((Int.tmod x2.2.2.1 (b0.2.2.1.length:Int))+1)).toNat)),b0.2.2.2)).bind fun y2=>(some (0,y2)))) else none) else none)) else none) else none) else none) else none) else none) else none) else none) else none)) else none) else none)))
theorem tP:Jl UU UO:=cT OX rfl ⟨rfl,rfl⟩ (by kernel_rfl)
def Zn:=cG O1 (AK Cd) (AK Cd) kx
def Zo:=kE 0 [(3,0)] [3] 1 Zn kx
def Yc:St->Option (RT (BI.outs Cd)):=lG O0 [(3,0)] [0,3,4] 1 (AK Cd) Zo
def D0 (x0:List AD) (x1:Int) (x2:List AD):Option (List AD):=Yc ⟨[(0,.lst AI x0),(3,.row 0),(4,.int .i64 x1)],[.rows 90 AI x2]⟩
def IU (x0:List AD) (x1:Int) (x2:List AD):Option (List AD):=(if (decide (x1<(x0.length:Int)))=true then (if 0<=x1 then (if x1<(x0.length:Int) then (if ([]:List AA).length+((((((x0.getD x1.toNat (0,0,0,0,0,([]:List AA))).2).2).2).2).2).length<=68719476736 then (if x2.length+([((x0.getD x1.toNat (0,0,0,0,0,([]:List AA))).1,((x0.getD x1.toNat (0,0,0,0,0,([]:List AA))).2).1,(((x0.getD x1.toNat (0,0,0,0,0,([]:List AA))).2).2).1,((((x0.getD x1.toNat (0,0,0,0,0,([]:List AA))).2).2).2).1,(((((x0.getD x1.toNat (0,0,0,0,0,([]:List AA))).2).2).2).2).1,(([]:List AA)++((((((x0.getD x1.toNat (0,0,0,0,0,([]:List AA))).2).2).2).2).2)))]:List AD).length<=68719476736 then (D0 x0 (i64.wrap (x1+1)) (x2++([((x0.getD x1.toNat (0,0,0,0,0,([]:List AA))).1,((x0.getD x1.toNat (0,0,0,0,0,([]:List AA))).2).1,(((x0.getD x1.toNat (0,0,0,0,0,([]:List AA))).2).2).1,((((x0.getD x1.toNat (0,0,0,0,0,([]:List AA))).2).2).2).1,(((((x0.getD x1.toNat (0,0,0,0,0,([]:List AA))).2).2).2).2).1,(([]:List AA)++((((((x0.getD x1.toNat (0,0,0,0,0,([]:List AA))).2).2).2).2).2)))]:List AD))) else none) else none) else none) else none) else (some x2))
def SE (x0:List AD):Option (List AD):=(D0 x0 0 ([]:List AD))
theorem Nc:Jl IU D0:=lS (by kernel_rfl)
theorem eP:SU SE LF:=cT Cd rfl ⟨rfl,rfl⟩ (by kernel_rfl)
def Zp (x0:Z):Option Z:=(if ([]:List Int).length+x0.2.2.2.2.2.2.1.length<=68719476736 then (if ([]:List AA).length+x0.2.2.2.2.2.2.2.1.length<=68719476736 then (if ([]:List Int).length+x0.2.2.2.2.2.2.2.2.2.2.2.2.2.length<=68719476736 then (some (x0.1,x0.2.1,x0.2.2.1,x0.2.2.2.1,x0.2.2.2.2.1,x0.2.2.2.2.2.1,(([]:List Int)++x0.2.2.2.2.2.2.1),(([]:List AA)++x0.2.2.2.2.2.2.2.1),x0.2.2.2.2.2.2.2.2.1,x0.2.2.2.2.2.2.2.2.2.1,x0.2.2.2.2.2.2.2.2.2.2.1,x0.2.2.2.2.2.2.2.2.2.2.2.1,x0.2.2.2.2.2.2.2.2.2.2.2.2.1,(([]:List Int)++x0.2.2.2.2.2.2.2.2.2.2.2.2.2))) else none) else none) else none)
theorem rU:SU Zp DZ:=cT MS rfl ⟨rfl,rfl⟩ (by kernel_rfl)
def lR:=cG TD (AK CB) (AK CB) kx
def OG:=kE 0 [] [0] 0 lR kx
def Th:St->Option (RT (BI.outs CB)):=lG TC [] [0,7,8,9] 0 (AK CB) OG
def lT:=kB [] [0,7,8,9] 0 Th
def Vg:=cG TB lT (AK CB) OG
def Vh:=kB [] [0,7,8,9] 0 Vg
def OH:=kE 1 [] [0,7,8,9] 0 Vg OG
def lU:=cG Nz Vh (AK CB) OH
def lV:=kE 2 [] [0,4,7,8,9] 0 lU OH
def iJ:St->Option (RT (BI.outs CB)):=lG VG [] [0,4,7,8,9,13,14,15] 0 (AK CB) lV
def Mz (x0:List (List Int)) (x1:List Int) (x2:List (List Int)) (x3 x4:Int):Option Bool:=cG Nz Vh (AK CB) OH ⟨[(0,.lst .S x0),(4,.lst .W x1),(7,.lst .S x2),(8,.int .i64 x3),(9,.int .i64 x4)],[]⟩
def Im (x0:List (List Int)) (x1:List Int) (x2:List (List Int)) (x3 x4:Int) (x5:List Int) (x6 x7:Int):Option Bool:=iJ ⟨[(0,.lst .S x0),(4,.lst .W x1),(7,.lst .S x2),(8,.int .i64 x3),(9,.int .i64 x4),(13,.lst .W x5),(14,.int .i64 x6),(15,.int .i64 x7)],[]⟩
def In (x0 x1:List (List Int)) (x2 x3:Int):Option Bool:=Th ⟨[(0,.lst .S x0),(7,.lst .S x1),(8,.int .i64 x2),(9,.int .i64 x3)],[]⟩
def Ti (x0:List (List Int)) (x1:List Int) (x2:List (List Int)) (x3 x4:Int):Option Bool:=((Av (x1.length:Int) 1 4).bind fun y3=>(if (!y3)=true then (some false) else (In x0 x2 x3 (i64.wrap (x4+1)))))
def M0 (x0:List (List Int)) (x1:List Int) (x2:List (List Int)) (x3 x4:Int) (x5:List Int) (x6 x7:Int):Option Bool:=(if (decide (x7<x6))=true then (if 0<=x7 then (if x7<(x5.length:Int) then ((FR (x5.getD x7.toNat 0)).bind fun y1=>(if (!y1)=false then ((Db x1 (x5.getD x7.toNat 0)).bind fun y2=>(if (y2 != x7)=true then (some false) else (Im x0 x1 x2 x3 x4 x5 x6 (i64.wrap (x7+1))))) else (some false))) else none) else none) else (Mz x0 x1 x2 x3 x4))
def M1 (x0 x1:List (List Int)) (x2 x3:Int):Option Bool:=(if (decide (x3<x2))=true then (if 0<=x3 then (if x3<(x1.length:Int) then (Im x0 (x1.getD x3.toNat ([]:List Int)) x1 x2 x3 (x1.getD x3.toNat ([]:List Int)) ((x1.getD x3.toNat ([]:List Int)).length:Int) 0) else none) else none) else ((Av (x0.length:Int) 1 9).bind fun y4=>(some y4)))
def Zq (x0:List (List Int)):Option Bool:=(In x0 x0 (x0.length:Int) 0)
theorem iK:xw Ti Mz:=jS (by kernel_rfl)
theorem Tj:Le8 M0 Im:=lS (by kernel_rfl)
theorem Tk:so M1 In:=lS (by kernel_rfl)
theorem rV:SU Zq EW:=cT CB rfl ⟨rfl,rfl⟩ (by kernel_rfl)
end
end Go.Proofs.YtfcgblnlopemkaaGreat.Core
