/- A part of the proof, joined of several texts: the verification layer, contracts of functions, plain law. -/
import Derived.Test.YtefkpedhbijhkaaGreatDoorW5
import Derived.Test.YtefkpedhbijhkaaGreatDoorProg
set_option maxHeartbeats 64000000
set_option linter.unusedSimpArgs false
set_option linter.unusedVariables false
set_option linter.unusedSectionVars false
set_option maxRecDepth 20000
namespace Go.Proofs.YtefkpedhbijhkaaGreatDoor
open Go Go.V Go.Proofs
def T:Tys:=fun t=>match t with
 |1|28|29|32|33|34|35|36|37|38|40|42|43|44|46|47|48|49|50|51|53|54|55|57|61|62|63|64|65|66|67|68|69|71|72|73|74|75|77|78|79|81|82|88|89|90|91|92|93|94|98|99|100|101|102|104|106|113|115|116|118|119|120|122|123|124|125|126|127|128|129|130|131|133|134|135|136|137|140|141|144|145|146|147|148|149|151|154|156|158|159|160|162|165|166|167|169|171|172|175|176|182|185|191=>⟨.func,1,8,[.nilFunc],false⟩
 |2|3|30|142=>⟨.int .i64,1,8,[(.int .i64 0)],false⟩
 |4=>⟨.bool,1,1,[(.bool false)],false⟩
 |5=>⟨.int .u8,1,1,[(.int .u8 0)],false⟩
 |9=>⟨.string,1,16,[(.string ⟨#[]⟩)],false⟩
 |12|95|121|164=>⟨.int .u64,1,8,[(.int .u64 0)],false⟩
 |13=>⟨.struct [(0,9),(1,12)],2,24,[(.string ⟨#[]⟩),(.int .u64 0)],false⟩
 |20=>⟨.iface,1,16,[.nilIface],false⟩
 |21=>⟨.int .i32,1,4,[(.int .i32 0)],false⟩
 |22=>⟨.arr 256 5,256,256,List.replicate 256 (.int .u8 0),true⟩
 |23=>⟨.slice 24,1,24,[(.slice none 0 0)],false⟩
 |24=>⟨.slice 3,1,24,[(.slice none 0 0)],false⟩
 |25=>⟨.slice 9,1,24,[(.slice none 0 0)],false⟩
 |26|27=>⟨.struct [(0,22),(256,3),(257,23),(258,24),(259,25)],260,336,List.replicate 256 (.int .u8 0)++[(.int .i64 0),(.slice none 0 0),(.slice none 0 0),(.slice none 0 0)],false⟩
 |39=>⟨.slice 5,1,24,[(.slice none 0 0)],false⟩
 |45=>⟨.slice 35,1,24,[(.slice none 0 0)],false⟩
 |56=>⟨.ptr 85,1,8,[(.pointer none)],false⟩
 |58=>⟨.slice 39,1,24,[(.slice none 0 0)],false⟩
 |59|60=>⟨.struct [(0,56),(1,58)],2,32,[(.pointer none),(.slice none 0 0)],false⟩
 |76=>⟨.slice 49,1,24,[(.slice none 0 0)],false⟩
 |80=>⟨.slice 97,1,24,[(.slice none 0 0)],false⟩
 |83=>⟨.map 9 3,1,8,[(.map none)],false⟩
 |84|85=>⟨.struct [(0,83),(1,25)],2,32,[(.map none),(.slice none 0 0)],false⟩
 |86=>⟨.ptr 60,1,8,[(.pointer none)],false⟩
 |96|97=>⟨.arr 4 95,4,32,[(.int .u64 0),(.int .u64 0),(.int .u64 0),(.int .u64 0)],true⟩
 |103=>⟨.slice 4,1,24,[(.slice none 0 0)],false⟩
 |105=>⟨.ptr 112,1,8,[(.pointer none)],false⟩
 |107=>⟨.slice 139,1,24,[(.slice none 0 0)],false⟩
 |108=>⟨.slice 23,1,24,[(.slice none 0 0)],false⟩
 |109=>⟨.slice 114,1,24,[(.slice none 0 0)],false⟩
 |110=>⟨.map 114 3,1,8,[(.map none)],false⟩
 |111|112=>⟨.struct [(0,24),(1,24),(2,24),(3,107),(4,108),(5,109),(6,110),(7,3)],8,160,[(.slice none 0 0),(.slice none 0 0),(.slice none 0 0),(.slice none 0 0),(.slice none 0 0),(.slice none 0 0),(.map none),(.int .i64 0)],false⟩
 |114=>⟨.arr 2 3,2,16,[(.int .i64 0),(.int .i64 0)],true⟩
 |117=>⟨.arr 256 4,256,256,List.replicate 256 (.bool false),true⟩
 |138|139=>⟨.struct [(0,3),(1,3),(2,3)],3,24,[(.int .i64 0),(.int .i64 0),(.int .i64 0)],false⟩
 |150=>⟨.int .u32,1,4,[(.int .u32 0)],false⟩
 |152=>⟨.map 5 5,1,8,[(.map none)],false⟩
 |161=>⟨.map 3 3,1,8,[(.map none)],false⟩
 |163=>⟨.ptr 139,1,8,[(.pointer none)],false⟩
 |168=>⟨.ptr 3,1,8,[(.pointer none)],false⟩
 |170=>⟨.arr 64 5,64,64,List.replicate 64 (.int .u8 0),true⟩
 |173=>⟨.ptr 164,1,8,[(.pointer none)],false⟩
 |179=>⟨.arr 0 16,0,0,[],false⟩
 |180=>⟨.struct [(0,179)],0,0,[],false⟩
 |186=>⟨.ptr 5,1,8,[(.pointer none)],false⟩
 |_=>⟨.none,0,0,[],false⟩
@[go_sem] def F0:TI:=⟨.func,1,8,[.nilFunc],false⟩
@[go_sem] theorem G0:T 1=F0∧T 28=F0∧T 29=F0∧T 32=F0∧T 33=F0∧T 34=F0∧T 35=F0∧T 36=F0∧T 37=F0∧T 38=F0∧T 40=F0∧T 42=F0∧T 43=F0∧T 44=F0∧T 46=F0∧T 47=F0∧T 48=F0∧T 49=F0∧T 50=F0∧T 51=F0∧T 53=F0∧T 54=F0∧T 55=F0∧T 57=F0∧T 61=F0∧T 62=F0∧T 63=F0∧T 64=F0∧T 65=F0∧T 66=F0∧T 67=F0∧T 68=F0∧T 69=F0∧T 71=F0∧T 72=F0∧T 73=F0∧T 74=F0∧T 75=F0∧T 77=F0∧T 78=F0∧T 79=F0∧T 81=F0∧T 82=F0∧T 88=F0∧T 89=F0∧T 90=F0∧T 91=F0∧T 92=F0∧T 93=F0∧T 94=F0∧T 98=F0∧T 99=F0∧T 100=F0∧T 101=F0∧T 102=F0∧T 104=F0∧T 106=F0∧T 113=F0∧T 115=F0∧T 116=F0∧T 118=F0∧T 119=F0∧T 120=F0∧T 122=F0∧T 123=F0∧T 124=F0∧T 125=F0∧T 126=F0∧T 127=F0∧T 128=F0∧T 129=F0∧T 130=F0∧T 131=F0∧T 133=F0∧T 134=F0∧T 135=F0∧T 136=F0∧T 137=F0∧T 140=F0∧T 141=F0∧T 144=F0∧T 145=F0∧T 146=F0∧T 147=F0∧T 148=F0∧T 149=F0∧T 151=F0∧T 154=F0∧T 156=F0∧T 158=F0∧T 159=F0∧T 160=F0∧T 162=F0∧T 165=F0∧T 166=F0∧T 167=F0∧T 169=F0∧T 171=F0∧T 172=F0∧T 175=F0∧T 176=F0∧T 182=F0∧T 185=F0∧T 191=F0:=⟨rfl,rfl,rfl,rfl,rfl,rfl,rfl,rfl,rfl,rfl,rfl,rfl,rfl,rfl,rfl,rfl,rfl,rfl,rfl,rfl,rfl,rfl,rfl,rfl,rfl,rfl,rfl,rfl,rfl,rfl,rfl,rfl,rfl,rfl,rfl,rfl,rfl,rfl,rfl,rfl,rfl,rfl,rfl,rfl,rfl,rfl,rfl,rfl,rfl,rfl,rfl,rfl,rfl,rfl,rfl,rfl,rfl,rfl,rfl,rfl,rfl,rfl,rfl,rfl,rfl,rfl,rfl,rfl,rfl,rfl,rfl,rfl,rfl,rfl,rfl,rfl,rfl,rfl,rfl,rfl,rfl,rfl,rfl,rfl,rfl,rfl,rfl,rfl,rfl,rfl,rfl,rfl,rfl,rfl,rfl,rfl,rfl,rfl,rfl,rfl,rfl,rfl,rfl,rfl⟩
@[go_sem] def F1:TI:=⟨.int .i64,1,8,[(.int .i64 0)],false⟩
@[go_sem] theorem G1:T 2=F1∧T 3=F1∧T 30=F1∧T 142=F1:=⟨rfl,rfl,rfl,rfl⟩
@[go_sem] def F2:TI:=⟨.int .u64,1,8,[(.int .u64 0)],false⟩
@[go_sem] theorem G2:T 12=F2∧T 95=F2∧T 121=F2∧T 164=F2:=⟨rfl,rfl,rfl,rfl⟩
@[go_sem] theorem Gx:T 4=⟨.bool,1,1,[(.bool false)],false⟩∧T 5=⟨.int .u8,1,1,[(.int .u8 0)],false⟩∧T 9=⟨.string,1,16,[(.string ⟨#[]⟩)],false⟩∧T 13=⟨.struct [(0,9),(1,12)],2,24,[(.string ⟨#[]⟩),(.int .u64 0)],false⟩∧T 20=⟨.iface,1,16,[.nilIface],false⟩∧T 21=⟨.int .i32,1,4,[(.int .i32 0)],false⟩∧T 22=⟨.arr 256 5,256,256,List.replicate 256 (.int .u8 0),true⟩∧T 23=⟨.slice 24,1,24,[(.slice none 0 0)],false⟩∧T 24=⟨.slice 3,1,24,[(.slice none 0 0)],false⟩∧T 25=⟨.slice 9,1,24,[(.slice none 0 0)],false⟩∧T 26=⟨.struct [(0,22),(256,3),(257,23),(258,24),(259,25)],260,336,List.replicate 256 (.int .u8 0)++[(.int .i64 0),(.slice none 0 0),(.slice none 0 0),(.slice none 0 0)],false⟩∧T 27=⟨.struct [(0,22),(256,3),(257,23),(258,24),(259,25)],260,336,List.replicate 256 (.int .u8 0)++[(.int .i64 0),(.slice none 0 0),(.slice none 0 0),(.slice none 0 0)],false⟩∧T 39=⟨.slice 5,1,24,[(.slice none 0 0)],false⟩∧T 45=⟨.slice 35,1,24,[(.slice none 0 0)],false⟩∧T 56=⟨.ptr 85,1,8,[(.pointer none)],false⟩∧T 58=⟨.slice 39,1,24,[(.slice none 0 0)],false⟩∧T 59=⟨.struct [(0,56),(1,58)],2,32,[(.pointer none),(.slice none 0 0)],false⟩∧T 60=⟨.struct [(0,56),(1,58)],2,32,[(.pointer none),(.slice none 0 0)],false⟩∧T 76=⟨.slice 49,1,24,[(.slice none 0 0)],false⟩∧T 80=⟨.slice 97,1,24,[(.slice none 0 0)],false⟩∧T 83=⟨.map 9 3,1,8,[(.map none)],false⟩∧T 84=⟨.struct [(0,83),(1,25)],2,32,[(.map none),(.slice none 0 0)],false⟩∧T 85=⟨.struct [(0,83),(1,25)],2,32,[(.map none),(.slice none 0 0)],false⟩∧T 86=⟨.ptr 60,1,8,[(.pointer none)],false⟩∧T 96=⟨.arr 4 95,4,32,[(.int .u64 0),(.int .u64 0),(.int .u64 0),(.int .u64 0)],true⟩∧T 97=⟨.arr 4 95,4,32,[(.int .u64 0),(.int .u64 0),(.int .u64 0),(.int .u64 0)],true⟩∧T 103=⟨.slice 4,1,24,[(.slice none 0 0)],false⟩∧T 105=⟨.ptr 112,1,8,[(.pointer none)],false⟩∧T 107=⟨.slice 139,1,24,[(.slice none 0 0)],false⟩∧T 108=⟨.slice 23,1,24,[(.slice none 0 0)],false⟩∧T 109=⟨.slice 114,1,24,[(.slice none 0 0)],false⟩∧T 110=⟨.map 114 3,1,8,[(.map none)],false⟩∧T 111=⟨.struct [(0,24),(1,24),(2,24),(3,107),(4,108),(5,109),(6,110),(7,3)],8,160,[(.slice none 0 0),(.slice none 0 0),(.slice none 0 0),(.slice none 0 0),(.slice none 0 0),(.slice none 0 0),(.map none),(.int .i64 0)],false⟩∧T 112=⟨.struct [(0,24),(1,24),(2,24),(3,107),(4,108),(5,109),(6,110),(7,3)],8,160,[(.slice none 0 0),(.slice none 0 0),(.slice none 0 0),(.slice none 0 0),(.slice none 0 0),(.slice none 0 0),(.map none),(.int .i64 0)],false⟩∧T 114=⟨.arr 2 3,2,16,[(.int .i64 0),(.int .i64 0)],true⟩∧T 117=⟨.arr 256 4,256,256,List.replicate 256 (.bool false),true⟩∧T 138=⟨.struct [(0,3),(1,3),(2,3)],3,24,[(.int .i64 0),(.int .i64 0),(.int .i64 0)],false⟩∧T 139=⟨.struct [(0,3),(1,3),(2,3)],3,24,[(.int .i64 0),(.int .i64 0),(.int .i64 0)],false⟩∧T 150=⟨.int .u32,1,4,[(.int .u32 0)],false⟩∧T 152=⟨.map 5 5,1,8,[(.map none)],false⟩∧T 161=⟨.map 3 3,1,8,[(.map none)],false⟩∧T 163=⟨.ptr 139,1,8,[(.pointer none)],false⟩∧T 168=⟨.ptr 3,1,8,[(.pointer none)],false⟩∧T 170=⟨.arr 64 5,64,64,List.replicate 64 (.int .u8 0),true⟩∧T 173=⟨.ptr 164,1,8,[(.pointer none)],false⟩∧T 179=⟨.arr 0 16,0,0,[],false⟩∧T 180=⟨.struct [(0,179)],0,0,[],false⟩∧T 186=⟨.ptr 5,1,8,[(.pointer none)],false⟩:=⟨rfl,rfl,rfl,rfl,rfl,rfl,rfl,rfl,rfl,rfl,rfl,rfl,rfl,rfl,rfl,rfl,rfl,rfl,rfl,rfl,rfl,rfl,rfl,rfl,rfl,rfl,rfl,rfl,rfl,rfl,rfl,rfl,rfl,rfl,rfl,rfl,rfl,rfl,rfl,rfl,rfl,rfl,rfl,rfl,rfl,rfl,rfl,rfl⟩
theorem okH {t:TypeId} {d i z} (h1:Tryz.prog.underlying t=some d) (h3:Tryz.prog.info? t=some i) (h2:(T t).k.fits d:=by first|rfl|exact⟨_,rfl,rfl⟩|exact⟨_,_,_,rfl⟩|exact⟨_,rfl⟩) (h4:i.size=(T t).size∧i.bytes=(T t).bytes∧i.zero=some z∧z.cells.toList=(T t).zero∧z=zc9 (T t):=by exact⟨rfl,rfl,rfl,rfl,rfl⟩) (h5:(T t).eq=true→eqB Tryz.prog t d=true:=by first| (intro h;cases h;done)|exact fun _=>by kernel_rfl): ∃d i z,Tryz.prog.underlying t=some d∧(T t).k.fits d∧Tryz.prog.info? t=some i∧i.size=(T t).size∧i.bytes=(T t).bytes∧i.zero=some z∧z.cells.toList=(T t).zero∧z=zc9 (T t)∧((T t).eq=true→eqB Tryz.prog t d=true):=⟨d,i,z,h1,h2,h3,h4.1,h4.2.1,h4.2.2.1,h4.2.2.2.1,h4.2.2.2.2,h5⟩
open Tryz in
theorem tok:zM Tryz.prog T:=by
 intro t
 by_cases h:(T t).k= .none
 ·exact .inl h
 ·refine .inr ?_
  unfold T at h
  split at h
  ·exact okH underlying1 type1
  ·exact okH underlying28 type28
  ·exact okH underlying29 type29
  ·exact okH underlying32 type32
  ·exact okH underlying33 type33
  ·exact okH underlying34 type34
  ·exact okH underlying35 type35
  ·exact okH underlying36 type36
  ·exact okH underlying37 type37
  ·exact okH underlying38 type38
  ·exact okH underlying40 type40
  ·exact okH underlying42 type42
  ·exact okH underlying43 type43
  ·exact okH underlying44 type44
  ·exact okH underlying46 type46
  ·exact okH underlying47 type47
  ·exact okH underlying48 type48
  ·exact okH underlying49 type49
  ·exact okH underlying50 type50
  ·exact okH underlying51 type51
  ·exact okH underlying53 type53
  ·exact okH underlying54 type54
  ·exact okH underlying55 type55
  ·exact okH underlying57 type57
  ·exact okH underlying61 type61
  ·exact okH underlying62 type62
  ·exact okH underlying63 type63
  ·exact okH underlying64 type64
  ·exact okH underlying65 type65
  ·exact okH underlying66 type66
  ·exact okH underlying67 type67
  ·exact okH underlying68 type68
  ·exact okH underlying69 type69
  ·exact okH underlying71 type71
  ·exact okH underlying72 type72
  ·exact okH underlying73 type73
  ·exact okH underlying74 type74
  ·exact okH underlying75 type75
  ·exact okH underlying77 type77
  ·exact okH underlying78 type78
  ·exact okH underlying79 type79
  ·exact okH underlying81 type81
  ·exact okH underlying82 type82
  ·exact okH underlying88 type88
  ·exact okH underlying89 type89
  ·exact okH underlying90 type90
  ·exact okH underlying91 type91
  ·exact okH underlying92 type92
  ·exact okH underlying93 type93
  ·exact okH underlying94 type94
  ·exact okH underlying98 type98
  ·exact okH underlying99 type99
  ·exact okH underlying100 type100
  ·exact okH underlying101 type101
  ·exact okH underlying102 type102
  ·exact okH underlying104 type104
  ·exact okH underlying106 type106
  ·exact okH underlying113 type113
  ·exact okH underlying115 type115
  ·exact okH underlying116 type116
  ·exact okH underlying118 type118
  ·exact okH underlying119 type119
  ·exact okH underlying120 type120
  ·exact okH underlying122 type122
  ·exact okH underlying123 type123
  ·exact okH underlying124 type124
  ·exact okH underlying125 type125
  ·exact okH underlying126 type126
  ·exact okH underlying127 type127
  ·exact okH underlying128 type128
  ·exact okH underlying129 type129
  ·exact okH underlying130 type130
  ·exact okH underlying131 type131
  ·exact okH underlying133 type133
  ·exact okH underlying134 type134
  ·exact okH underlying135 type135
  ·exact okH underlying136 type136
  ·exact okH underlying137 type137
  ·exact okH underlying140 type140
  ·exact okH underlying141 type141
  ·exact okH underlying144 type144
  ·exact okH underlying145 type145
  ·exact okH underlying146 type146
  ·exact okH underlying147 type147
  ·exact okH underlying148 type148
  ·exact okH underlying149 type149
  ·exact okH underlying151 type151
  ·exact okH underlying154 type154
  ·exact okH underlying156 type156
  ·exact okH underlying158 type158
  ·exact okH underlying159 type159
  ·exact okH underlying160 type160
  ·exact okH underlying162 type162
  ·exact okH underlying165 type165
  ·exact okH underlying166 type166
  ·exact okH underlying167 type167
  ·exact okH underlying169 type169
  ·exact okH underlying171 type171
  ·exact okH underlying172 type172
  ·exact okH underlying175 type175
  ·exact okH underlying176 type176
  ·exact okH underlying182 type182
  ·exact okH underlying185 type185
  ·exact okH underlying191 type191
  ·exact okH underlying2 type2
  ·exact okH underlying3 type3
  ·exact okH underlying30 type30
  ·exact okH underlying142 type142
  ·exact okH underlying4 type4
  ·exact okH underlying5 type5
  ·exact okH underlying9 type9
  ·exact okH underlying12 type12
  ·exact okH underlying95 type95
  ·exact okH underlying121 type121
  ·exact okH underlying164 type164
  ·exact okH underlying13 type13
  ·exact okH underlying20 type20
  ·exact okH underlying21 type21
  ·exact okH underlying22 type22
  ·exact okH underlying23 type23
  ·exact okH underlying24 type24
  ·exact okH underlying25 type25
  ·exact okH underlying26 type26
  ·exact okH underlying27 type27
  ·exact okH underlying39 type39
  ·exact okH underlying45 type45
  ·exact okH underlying56 type56
  ·exact okH underlying58 type58
  ·exact okH underlying59 type59
  ·exact okH underlying60 type60
  ·exact okH underlying76 type76
  ·exact okH underlying80 type80
  ·exact okH underlying83 type83
  ·exact okH underlying84 type84
  ·exact okH underlying85 type85
  ·exact okH underlying86 type86
  ·exact okH underlying96 type96
  ·exact okH underlying97 type97
  ·exact okH underlying103 type103
  ·exact okH underlying105 type105
  ·exact okH underlying107 type107
  ·exact okH underlying108 type108
  ·exact okH underlying109 type109
  ·exact okH underlying110 type110
  ·exact okH underlying111 type111
  ·exact okH underlying112 type112
  ·exact okH underlying114 type114
  ·exact okH underlying117 type117
  ·exact okH underlying138 type138
  ·exact okH underlying139 type139
  ·exact okH underlying150 type150
  ·exact okH underlying152 type152
  ·exact okH underlying161 type161
  ·exact okH underlying163 type163
  ·exact okH underlying168 type168
  ·exact okH underlying170 type170
  ·exact okH underlying173 type173
  ·exact okH underlying179 type179
  ·exact okH underlying180 type180
  ·exact okH underlying186 type186
  ·exact absurd rfl h
theorem mixed:Tryz.prog.follows .mixedOrders=true:=by kernel_rfl
theorem seatok:SeatOk Tryz.prog:=⟨by kernel_rfl,by kernel_rfl,by kernel_rfl⟩
end Go.Proofs.YtefkpedhbijhkaaGreatDoor
namespace Go.Proofs.YtefkpedhbijhkaaGreatDoor
open Go Go.V Go.Proofs
section bare
variable {α:Type}
def zbh:Nat→List α→List (α×Int)
 |_,[]=>[]
 |i,k::ks=>(k,(i:Int))::zbh (i+1) ks
theorem zcu (i:Nat) (ks:List α):(zbh i ks).length=ks.length:=by
 induction ks generalizing i with
 |nil=>rfl
 |cons k ks ih=>simp [zbh,ih]
theorem zup:zbh 0 ([]:List α)=[]:=rfl
end bare
section plain
variable {α:Type} [DecidableEq α]
def place (ks:List α) (k:α):Option Nat:=ks.findIdx? (fun x=>decide (k=x))
theorem zlC (k:α): ∀ (ks:List α) (i:Nat),zbL k (zbh i ks)=Option.map (fun n:Nat=>((i+n:Nat):Int)) (place ks k)
 | [],i=>rfl
 |x::ks,i=>by
  simp only[zbh,zbL,place,List.findIdx?_cons]
  by_cases h:k=x
  ·simp [h]
  ·have ih:=zlC k ks (i+1)
   unfold place at ih
   rw[if_neg h,ih]
   simp only[h,decide_false,Bool.false_eq_true,if_false,Option.map_map]
   congr 1;funext n;simp;omega
theorem zbx (k:α) (ks:List α):zbL k (zbh 0 ks)=Option.map (fun n:Nat=>(n:Int)) (place ks k):=by
 rw[zlC];cases place ks k <;> simp
theorem zcv {k:α} {ks:List α} (h:place ks k=none):k∉ks:=fun hk=>by
 unfold place at h
 rw[List.findIdx?_eq_none_iff] at h
 have:=h k hk
 simp at this
theorem zR {k:α} {ks:List α} {n:Nat} (h:place ks k=some n):n<ks.length∧ks[n]? =some k:=by
 unfold place at h
 rw[List.findIdx?_eq_some_iff_getElem] at h
 obtain⟨h1,h2,_⟩:=h
 exact⟨h1,by rw[List.getElem?_eq_getElem h1];simpa using (of_decide_eq_true h2).symm⟩
theorem zS {k:α} {ks:List α} (h:k∈ks): ∃n,place ks k=some n:=by
 cases hp:place ks k with
 |none=>exact absurd h (zcv hp)
 |some n=>exact⟨n,rfl⟩
theorem zbt {k:α} {ks:List α} (h:k∉ks):place ks k=none:=by
 cases hp:place ks k with
 |none=>rfl
 |some n=>
  obtain⟨h1,h2⟩:=zR hp
  rw[List.getElem?_eq_getElem h1,Option.some.injEq] at h2
  exact absurd (h2▸List.getElem_mem h1) h
theorem zbX {ks:List α} (hnd:ks.Nodup) {n:Nat} (h:n<ks.length):place ks ks[n]=some n:=by
 obtain⟨m,hm⟩:=zS (List.getElem_mem h)
 obtain⟨h1,h2⟩:=zR hm
 rw[List.getElem?_eq_getElem h1,Option.some.injEq] at h2
 rw[hm,(List.getElem_inj hnd).1 h2]
theorem zlD {k:α} {ks:List α} (h:k∈ks) (ls:List α):place (ks++ls) k=place ks k:=by
 obtain⟨n,hn⟩:=zS h
 rw[hn]
 unfold place at hn⊢
 rw[List.findIdx?_append,hn];rfl
theorem zcV {k:α} {ks:List α} (h:k∉ks):place (ks++[k]) k=some ks.length:=by
 have hn:=zbt h
 unfold place at hn⊢
 rw[List.findIdx?_append,hn]
 simp
theorem zlE (k:α): ∀ (ks:List α) (i:Nat),k∉ks→zb7 k ((i+ks.length:Nat):Int) (zbh i ks)=zbh i (ks++[k])
 | [],i,_=>by simp [zbh,zb7]
 |x::ks,i,h=>by
  simp only[List.mem_cons,not_or] at h
  have ih:=zlE k ks (i+1) h.2
  simp only[zbh,zb7,List.cons_append,if_neg h.1,List.length_cons]
  rw[show i+(ks.length+1)=i+1+ks.length by omega,ih]
theorem zqM (k:α) (ks:List α) (h:k∉ks):zb7 k (ks.length:Int) (zbh 0 ks)=zbh 0 (ks++[k]):=by
 have:=zlE k ks 0 h
 rwa [Nat.zero_add] at this
theorem zcw {k:α} {ks:List α} (h:place ks k=none):zb7 k (ks.length:Int) (zbh 0 ks)=zbh 0 (ks++[k]):=zqM k ks (zcv h)
theorem zib (k:α):place [] k=none:=rfl
def zp (ks:List α) (k:α):Int:=match place ks k with|some n=>(n:Int)|none=> -1
theorem zx {ks:List α} {k:α} {n:Nat} (h:place ks k=some n):zp ks k=n:=by unfold zp;rw[h]
theorem zdc {ks:List α} {k:α} (h:place ks k=none):zp ks k= -1:=by unfold zp;rw[h]
theorem zf6 {k:α} {ks:List α} (h:k∈ks) (ls:List α):zp (ks++ls) k=zp ks k:=by unfold zp;rw[zlD h]
theorem zic {ks:List α} {x y:α} (hx:x∈ks) (hy:y∈ks) (h:zp ks x=zp ks y):x=y:=by
 obtain⟨a,ha⟩:=zS hx
 obtain⟨b,hb⟩:=zS hy
 rw[zx ha,zx hb] at h
 obtain rfl:a=b:=by omega
 have:=(zR ha).2.symm.trans (zR hb).2
 exact Option.some.inj this
def zl (l:List α):List α:=l.foldl (fun t k=>if k∈t then t else t++[k]) []
theorem zfE:zl ([]:List α)=[]:=rfl
theorem zaM (l:List α) (k:α):zl (l++[k])=if k∈zl l then zl l else zl l++[k]:=by unfold zl;rw[List.foldl_append];rfl
theorem zfd {P:List α→Prop} (h0:P []) (h1: ∀l k,P l→P (l++[k])) (l:List α):P l:=by
 have: ∀n,∀l:List α,l.length=n→P l:=fun n=>by
  induction n with
  |zero=>intro l hl;rw[List.eq_nil_of_length_eq_zero hl];exact h0
  |succ n ih=>
   intro l hl
   have hne:l≠[]:=fun e=>by rw[e] at hl;cases hl
   rw[←List.dropLast_concat_getLast hne]
   exact h1 _ _ (ih _ (by simp [hl]))
 exact this _ l rfl
theorem zI {x:α} (l:List α):x∈zl l↔x∈l:=by
 induction l using zfd with
 |h0=>simp [zfE]
 |h1 l k ih=>
  rw[zaM,List.mem_append,List.mem_singleton]
  split
  ·rename_i hk
   rw[ih]
   constructor
   ·exact .inl
   ·rintro(h|h)
    ·exact h
    ·subst h;exact ih.1 hk
  ·rw[List.mem_append,ih,List.mem_singleton]
theorem zcx (l:List α):(zl l).Nodup:=by
 induction l using zfd with
 |h0=>exact List.nodup_nil
 |h1 l k ih=>
  rw[zaM]
  split
  ·exact ih
  ·rename_i hk
   exact List.nodup_append.2 ⟨ih,by simp,fun a ha b hb=>by
    obtain rfl:b=k:=by simpa using hb
    intro e;subst e;exact hk ha⟩
theorem zam (l:List α):(zl l).length≤l.length:=by
 induction l using zfd with
 |h0=>exact Nat.le_refl _
 |h1 l k ih=>
  rw[zaM]
  split <;> simp <;> omega
def zf (l:List α):List Int:=l.map fun k=>zp (zl l) k
theorem zv (l:List α):(zf l).length=l.length:=by simp [zf]
theorem zna:zf ([]:List α)=[]:=rfl
theorem zlF (l:List α) (k:α):zf (l++[k])=zf l++[zp (zl (l++[k])) k]:=by
 unfold zf
 rw[List.map_append,List.map_singleton]
 congr 1
 refine List.map_congr_left fun x hx=>?_
 rw[zaM]
 split
 ·rfl
 ·exact zf6 ((zI l).2 hx) _
theorem zcW {l:List α} {k:α} {n:Nat} (h:place (zl l) k=some n):zl (l++[k])=zl l∧zf (l++[k])=zf l++[(n:Int)]:=by
 obtain⟨h1,h2⟩:=zR h
 rw[List.getElem?_eq_getElem h1,Option.some.injEq] at h2
 have hm:k∈zl l:=h2▸List.getElem_mem h1
 have:zl (l++[k])=zl l:=by rw[zaM,if_pos hm]
 exact⟨this,by rw[zlF,this,zx h]⟩
theorem zcy {l:List α} {k:α} (h:place (zl l) k=none):zl (l++[k])=zl l++[k]∧zf (l++[k])=zf l++[((zl l).length:Int)]:=by
 have hm:=zcv h
 have:zl (l++[k])=zl l++[k]:=by rw[zaM,if_neg hm]
 exact⟨this,by rw[zlF,this,zx (zcV hm)]⟩
theorem zbM {l:List α} {i:Nat} (h:i<l.length):(zf l)[i]'(by rw[zv];exact h)=zp (zl l) l[i]:=by simp [zf]
theorem zfF {l:List α} {i j:Nat} (hi:i<l.length) (hj:j<l.length):(zf l)[i]'(by rw[zv];exact hi)=(zf l)[j]'(by rw[zv];exact hj)↔l[i]=l[j]:=by
 rw[zbM hi,zbM hj]
 constructor
 ·exact zic ((zI l).2 (List.getElem_mem hi)) ((zI l).2 (List.getElem_mem hj))
 ·intro h;rw[h]
theorem za2 {l:List α} {n:Int} (h:n∈zf l):0≤n∧n< (zl l).length:=by
 unfold zf at h
 rw[List.mem_map] at h
 obtain⟨x,hx,rfl⟩:=h
 obtain⟨m,hm⟩:=zS ((zI l).2 hx)
 rw[zx hm]
 have:=(zR hm).1
 omega
end plain
section two
variable {α β:Type} [DecidableEq α] [DecidableEq β]
theorem zaG {l:List α} {k:Nat} (hk:k<l.length):l[k]∈l.take k↔ ∃j:Nat,∃h:j<k,l[j]'(Nat.lt_trans h hk)=l[k]:=by
 rw[List.mem_iff_getElem]
 constructor
 ·rintro⟨j,hj,e⟩
  rw[List.length_take] at hj
  rw[List.getElem_take] at e
  exact⟨j,by omega,e⟩
 ·rintro⟨j,hj,e⟩
  exact⟨j,by rw[List.length_take];omega,by rw[List.getElem_take];exact e⟩
theorem zf7 {l:List α} {m:List β} (hlen:l.length=m.length) (h: ∀i j (hi:i<l.length) (hj:j<l.length),l[i]=l[j]↔m[i]'(hlen▸hi)=m[j]'(hlen▸hj)):zf l=zf m:=by
 have key: ∀k,k≤l.length→zf (l.take k)=zf (m.take k)∧(zl (l.take k)).length=(zl (m.take k)).length:=fun k=>by
  induction k with
  |zero=>intro _;simp [zna,zfE]
  |succ k ih=>
   intro hk
   have hk':k<l.length:=by omega
   have hkm:k<m.length:=by omega
   obtain⟨h1,h2⟩:=ih Ko
   rw[List.take_succ_eq_append_getElem hk',List.take_succ_eq_append_getElem hkm]
   by_cases hmem:l[k]∈l.take k
   ·obtain⟨j,hj,e⟩:=(zaG hk').1 hmem
    have e2:=(h j k Ko hk').1 e
    have hmem2:m[k]∈m.take k:=(zaG hkm).2 ⟨j,hj,e2⟩
    obtain⟨n,hn⟩:=zS ((zI _).2 hmem)
    obtain⟨n',hn'⟩:=zS ((zI _).2 hmem2)
    rw[(zcW hn).1,(zcW hn).2,(zcW hn').1,(zcW hn').2,h1,h2]
    refine⟨?_,rfl⟩
    have g1:=zbM (l:=l.take k) (i:=j) (by rw[List.length_take];omega)
    have g2:=zbM (l:=m.take k) (i:=j) (by rw[List.length_take];omega)
    rw[List.getElem_take,e,zx hn] at g1
    rw[List.getElem_take,e2,zx hn'] at g2
    have g3:(zf (l.take k))[j]'(by rw[zv,List.length_take];omega)=(zf (m.take k))[j]'(by rw[zv,List.length_take];omega):=by simp only[h1]
    rw[g1,g2] at g3
    rw[g3]
   ·have hmem2:m[k]∉m.take k:=fun hm=>by
     obtain⟨j,hj,e⟩:=(zaG hkm).1 hm
     exact hmem ((zaG hk').2 ⟨j,hj,(h j k Ko hk').2 e⟩)
    have p1:=zbt fun hm=>hmem ((zI _).1 hm)
    have p2:=zbt fun hm=>hmem2 ((zI _).1 hm)
    rw[(zcy p1).1,(zcy p1).2,(zcy p2).1,(zcy p2).2,h1,h2]
    exact⟨rfl,by simp [h2]⟩
 have:=(key l.length (Nat.le_refl _)).1
 rwa [List.take_length,hlen,List.take_length] at this
end two
end Go.Proofs.YtefkpedhbijhkaaGreatDoor
namespace Go.Proofs.YtefkpedhbijhkaaGreatDoor
open Go Go.V Go.Proofs
theorem hei:zdZ T 3 (Value.int .i64):=zkn (T:=T) (t:=3) rfl
theorem zle {l:List Int} {a:Option Addr} {cap b1 i:Nat} (hi:i<l.length) {G:za} {H:zb} {R:Value→za→zb→Prop} (hrow:Row G a (l.map (Value.int .i64)))
  (hg1:G b1=none) (hf:zq H b1=some (.cells [.slice a l.length cap] [] 24)) (hR:R (.int .i64 l[i]) G H):FnT Tryz.prog 116 [.int .i64 (i:Nat), .pointer (some ⟨b1,0,none⟩)] G H R:=by
 have had:Adr a:=hrow.adr (by rw[List.length_map];omega)
 refine FnT.body tok [0,1,3] Tryz.func116 rfl Kk Kk (by show _≤8;simp) fun hsep=>?_
 rw[Tryz.results116]
 have hE:=hsep
 try simp only[zzs] at hE
 repeat(obtain⟨hx',hE⟩:=hE)
 repeat' first
  |with_reducible first|refine Nx.go ?_ |refine Bk.go (fun _=>?_) fun _=>?_
  |simp -dsimp -implicitDefEqProofs (disch:=first|exact Kd|fail) only[go_sem,↓reduceIte,seval,hf,Row.obj hrow,List.getElem_map]
 all_goals refine Upd.finL ?_ hR ?_
 any_goals first|exact Ks|skip
 rfl
theorem zsf {l:List Int} (hlen:l.length≤2000000) {a:Option Addr} {cap b1:Nat} {G:za} {H:zb} {R:Value→za→zb→Prop} (hrow:Row G a (l.map (Value.int .i64)))
  (hR: ∀v kb,Sep G (zk (kb++H))→zH [] 3 1 v l.length ((zf l).map (Value.int .i64)) kb→R v G (kb++H)):FnT Tryz.prog 115 [.int .i64 l.length, .func (.func 116) #[] #[.pointer (some ⟨b1,0,none⟩)]] G ((b1, .cells [.slice a l.length cap] [] 24)::H) R:=by
 refine FnT.sep ?_
 refine FnT.body tok [0,1,4,5,6,7,8,10,12,13,14,26] Tryz.func115 rfl Kk Kk (by show _≤39;simp) fun hsep=>?_
 rw[Tryz.results115]
 have hE:=hsep
 try simp only[zzs] at hE
 repeat(obtain⟨hx',hE⟩:=hE)
 repeat' first
  |with_reducible first|refine Nx.go ?_ |refine Bk.go (fun _=>?_) fun _=>?_ |refine zas.mk (fun _ _=>?_) fun _=>?_ |refine Nb fun nb hnb hnb1 hnb2=>?_ |refine Nr fun nb nsp ncap hnb hncap hnb1 hnb2=>?_
  |simp -dsimp -implicitDefEqProofs (disch:=first|exact Kd|fail) only[go_sem,↓reduceIte,seval]
 revert nb
 intro bm hbm hbm1 hbm2
 refine Tri.loopU tok [0,1,4,5,6,7,8,10,12,13,14,26] Kk [0,1,4,5,6,12,13] (fun q G' fr H'=> ∃ (i:Nat) (v:Value) (kb:zb),i+q=l.length∧G'=G∧zH [] 3 1 v i ((zf (l.take i)).map (Value.int .i64)) kb∧H'=(bm, .map ((zbh 0 (zl (l.take i))).map fun p=>((Value.int .i64) p.1,Value.int .i64 p.2))):: (b1, .cells [.slice a l.length cap] [] 24):: (kb++H)∧fr=[(0, .int .i64 l.length),(1, .func (.func 116) #[] #[.pointer (some ⟨b1,0,none⟩)]),(4, .slice none 0 0),(5, .map (some bm)),(6,v),(12, .int .i64 l.length),(13, .int .i64 i)]) (l.length) ?_ ?_
 ·exact Upd.now ⟨0,_,[],by omega,rfl, .inl ⟨none,rfl,rfl,rfl,rfl⟩,rfl,rfl⟩
 ·rintro q G1 fr H' hle hs ⟨i,v,kb,hi,rfl,hv,rfl,rfl⟩
  have hnl:(zf (l.take i)).length=i:=by rw[zv,List.length_take];omega
  have htl:=zam (l.take i)
  rw[List.length_take] at htl
  by_cases hil:i<l.length
  ·have htk:=List.take_succ_eq_append_getElem hil
   rcases hp:place (zl (l.take i)) l[i] with _|n
   ·have hnn:=zcy hp
    have hpe:=zcV (zcv hp)
    rw[←htk] at hnn
    rcases hv with ⟨a0,rfl,hn,hx,rfl⟩| ⟨b2,c2,sp,rfl,rfl,hx,hc⟩
    ·have hE:=hs
     try simp only[zzs] at hE
     repeat(obtain⟨hx',hE⟩:=hE)
     repeat' first
      |with_reducible first|refine Nx.go ?_ |refine Bk.go (fun _=>?_) fun _=>?_ |refine zas.mk (fun _ _=>?_) fun _=>?_ |refine Nb fun nb hnb hnb1 hnb2=>?_ |refine Nr fun nb nsp ncap hnb hncap hnb1 hnb2=>?_
      |simp -dsimp -implicitDefEqProofs (disch:=first|exact Kd|fail) only[go_sem,↓reduceIte,seval,zbC hei (Value.int .i64),zbq hei,zbx,Option.map_map,zb8 hei (Value.int .i64),zcw,hp,hpe,List.length_map,zcu]
      |with_reducible refine zle (cap:=cap) hil hrow Ka ?_ ?_
     have hce:(zf (l.take (i+1))).map (Value.int .i64)=[Value.int .i64 (zl (l.take i)).length]:=by rw[hnn.2,List.map_append,hx];rfl
     rw[←hnn.1,←hce]
     refine Upd.go (H':=(bm, .map ((zbh 0 (zl (l.take (i+1)))).map fun p=>((Value.int .i64) p.1,Value.int .i64 p.2))):: (b1, .cells [.slice a l.length cap] [] 24):: ([(nb, .cells ((zf (l.take (i+1))).map (Value.int .i64)) nsp 3)]++H)) Ks (Upd.now ⟨q - 1,by omega,i+1, .slice (some ⟨nb,0,none⟩) (i+1) ncap,[_],by omega,rfl, .inr ⟨nb,ncap,nsp,rfl,rfl,by rw[hce];simp [hn],by rw[hce];simp at hncap⊢;omega⟩,rfl,by obtain rfl:i=0:=hn;rfl⟩)
    ·have hE:=hs
     try simp only[zzs] at hE
     repeat(obtain⟨hx',hE⟩:=hE)
     repeat' first
      |with_reducible first|refine Nx.go ?_ |refine Bk.go (fun _=>?_) fun _=>?_ |refine zas.mk (fun _ _=>?_) fun _=>?_ |refine Nb fun nb hnb hnb1 hnb2=>?_ |refine Nr fun nb nsp ncap hnb hncap hnb1 hnb2=>?_
      |simp -dsimp -implicitDefEqProofs (disch:=first|exact Kd|fail) only[go_sem,↓reduceIte,seval,zbC hei (Value.int .i64),zbq hei,zbx,Option.map_map,zb8 hei (Value.int .i64),zcw,hp,hpe,List.length_map,zcu]
      |with_reducible refine zle (cap:=cap) hil hrow Ka ?_ ?_
     have hce:(zf (l.take (i+1))).map (Value.int .i64)=(zf (l.take i)).map (Value.int .i64)++[Value.int .i64 (zl (l.take i)).length]:=by rw[hnn.2,List.map_append];rfl
     rw[←hnn.1,←hce]
     refine Upd.go (H':=(bm, .map ((zbh 0 (zl (l.take (i+1)))).map fun p=>((Value.int .i64) p.1,Value.int .i64 p.2))):: (b1, .cells [.slice a l.length cap] [] 24):: ([(nb, .cells ((zf (l.take (i+1))).map (Value.int .i64)) nsp 3)]++H)) Ks (Upd.now ⟨q - 1,by omega,i+1, .slice (some ⟨nb,0,none⟩) (i+1) ncap,[_],by omega,rfl, .inr ⟨nb,ncap,nsp,rfl,rfl,by rw[hce];simp [hnl],by rw[hce];simp [hnl] at hncap⊢;omega⟩,rfl,rfl⟩)
   ·have hnn:=zcW hp
    rw[←htk] at hnn
    have hn0:i≠0:=fun e=>by subst e;rw[List.take_zero,zfE,zib] at hp;cases hp
    rcases hv with ⟨a0,rfl,hn,hx,rfl⟩| ⟨b2,c2,sp,rfl,rfl,hx,hc⟩
    ·exact absurd hn hn0
    ·have hE:=hs
     try simp only[zzs] at hE
     repeat(obtain⟨hx',hE⟩:=hE)
     repeat' first
      |with_reducible first|refine Nx.go ?_ |refine Bk.go (fun _=>?_) fun _=>?_ |refine zas.mk (fun _ _=>?_) fun _=>?_ |refine Nb fun nb hnb hnb1 hnb2=>?_ |refine Nr fun nb nsp ncap hnb hncap hnb1 hnb2=>?_
      |simp -dsimp -implicitDefEqProofs (disch:=first|exact Kd|fail) only[go_sem,↓reduceIte,seval,zbC hei (Value.int .i64),zbq hei,zbx,Option.map_map,zb8 hei (Value.int .i64),zcw,hp,List.length_map,zcu]
      |with_reducible refine zle (cap:=cap) hil hrow Ka ?_ ?_
     have hce:(zf (l.take (i+1))).map (Value.int .i64)=(zf (l.take i)).map (Value.int .i64)++[Value.int .i64 n]:=by rw[hnn.2,List.map_append];rfl
     rw[←hnn.1,←hce]
     refine Upd.go (H':=(bm, .map ((zbh 0 (zl (l.take (i+1)))).map fun p=>((Value.int .i64) p.1,Value.int .i64 p.2))):: (b1, .cells [.slice a l.length cap] [] 24):: ([(nb, .cells ((zf (l.take (i+1))).map (Value.int .i64)) nsp 3)]++H)) Ks (Upd.now ⟨q - 1,by omega,i+1, .slice (some ⟨nb,0,none⟩) (i+1) ncap,[_],by omega,rfl, .inr ⟨nb,ncap,nsp,rfl,rfl,by rw[hce];simp [hnl],by rw[hce];simp [hnl] at hncap⊢;omega⟩,rfl,rfl⟩)
  ·obtain rfl:i=l.length:=by omega
   rw[List.take_length] at hv⊢
   repeat' first
    |with_reducible first|refine Nx.go ?_ |refine Bk.go (fun _=>?_) fun _=>?_ |refine zas.mk (fun _ _=>?_) fun _=>?_ |refine Nb fun nb hnb hnb1 hnb2=>?_ |refine Nr fun nb nsp ncap hnb hncap hnb1 hnb2=>?_
    |simp -dsimp -implicitDefEqProofs (disch:=first|exact Kd|fail) only[go_sem,↓reduceIte,seval]
   unfold zz
   refine Upd.leave (H':=kb++H) Ks ?_
   exact fun _ hs=>hR _ kb hs hv
theorem zw3 {l:List Int} (hlen:l.length≤2000000) {a:Option Addr} {cap b1:Nat} {G:za} {H:zb} {R:Value→za→zb→Prop} (hrow:Row G a (l.map (Value.int .i64)))
  (hR: ∀G' v,PLe G G'→Sep G' (zk H)→Sl G' (Value.int .i64) v (zf l)→R v G' H):FnT Tryz.prog 115 [.int .i64 l.length, .func (.func 116) #[] #[.pointer (some ⟨b1,0,none⟩)]] G ((b1, .cells [.slice a l.length cap] [] 24)::H) R:=by
 refine FnT.upd (zsf hlen hrow fun v kb hs hv=>?_)
 rcases hv with ⟨a0,rfl,hn,hx,rfl⟩| ⟨b2,c2,sp,rfl,rfl,hx,hc⟩
 ·have hl0:l=[]:=List.eq_nil_of_length_eq_zero hn
  subst hl0
  exact Upd.now (hR _ _ (PLe.refl _) hs ⟨a0,0,rfl,Row.nil _ _,Nat.le_refl _⟩)
 ·refine Upd.shareRow hs.1.1 fun G2 hle2 hs2 hr2=>?_
  exact hR _ _ hle2 hs2 ⟨some ⟨b2,0,none⟩,c2,by rw[zv],hr2,by rw[zv];rw[List.length_map,zv] at hx hc;omega⟩
end Go.Proofs.YtefkpedhbijhkaaGreatDoor
namespace Go.Proofs.YtefkpedhbijhkaaGreatDoor
open Go Go.V Go.Proofs
theorem zwd {l:List Int} (hlen:l.length≤2000000) {G:za} {H:zb} {R:Value→za→zb→Prop} {v:Value} (hv:Sl G (Value.int .i64) v l)
  (hR: ∀v kb,Sep G (zk (kb++H))→zH [] 3 1 v l.length ((zf l).map (Value.int .i64)) kb→R v G (kb++H)):FnT Tryz.prog 93 [v] G H R:=by
 obtain⟨a,cap,rfl,hrow,hcap⟩:=hv
 refine FnT.body tok [0,1,2] Tryz.func93 rfl Kk Kk (by show _≤7;simp) fun hsep=>?_
 rw[Tryz.results93]
 have hE:=hsep
 try simp only[zzs] at hE
 repeat(obtain⟨hx',hE⟩:=hE)
 repeat' first
  |with_reducible first|refine Nx.go ?_ |refine Bk.go (fun _=>?_) fun _=>?_ |refine Nb fun nb hnb hnb1 hnb2=>?_
  |simp -dsimp -implicitDefEqProofs (disch:=first|exact Kd|fail) only[go_sem,↓reduceIte,seval]
  |with_reducible refine zsf hlen hrow fun v2 kb2 hs2 hsl2=>?_
 unfold zz
 refine Upd.leave (H':=kb2++H) Ks ?_
 exact hR v2 kb2 hs2 hsl2
theorem znb {l:List Int} (hlen:l.length≤2000000) {G:za} {H:zb} {R:Value→za→zb→Prop} {v:Value} (hv:Sl G (Value.int .i64) v l)
  (hR: ∀G' v',PLe G G'→Sep G' (zk H)→Sl G' (Value.int .i64) v' (zf l)→R v' G' H):FnT Tryz.prog 93 [v] G H R:=by
 obtain⟨a,cap,rfl,hrow,hcap⟩:=hv
 refine FnT.body tok [0,1,2] Tryz.func93 rfl Kk Kk (by show _≤7;simp) fun hsep=>?_
 rw[Tryz.results93]
 have hE:=hsep
 try simp only[zzs] at hE
 repeat(obtain⟨hx',hE⟩:=hE)
 repeat' first
  |with_reducible first|refine Nx.go ?_ |refine Bk.go (fun _=>?_) fun _=>?_ |refine Nb fun nb hnb hnb1 hnb2=>?_
  |simp -dsimp -implicitDefEqProofs (disch:=first|exact Kd|fail) only[go_sem,↓reduceIte,seval]
  |with_reducible refine zw3 hlen hrow fun G2 v2 hle2 hs2 hsl2=>?_
 all_goals refine Upd.finL ?_ (hR G2 v2 hle2 hs2 hsl2) ?_
 any_goals first|exact Ks|skip
 rfl
end Go.Proofs.YtefkpedhbijhkaaGreatDoor
namespace Go.Proofs.YtefkpedhbijhkaaGreatDoor
open Go Go.V Go.Proofs
theorem zgH (xs ys:List Int) (hlen:xs.length≤2000000) {G:za} {H:zb} {R:Value→za→zb→Prop} {v w:Value} (hv:Sl G (Value.int .i64) v xs) (hw:Sl G (Value.int .i64) w ys) (hR:R (.bool (decide (xs=ys))) G H):FnT Tryz.prog 35 [v,w] G H R:=by
 obtain⟨a,cap,rfl,hrow,hcap⟩:=hv
 obtain⟨a',cap',rfl,hrow',hcap'⟩:=hw
 refine FnT.body tok [0,1,4,5,10,12,13,14,24] Tryz.func35 rfl Kk Kk (by show _≤26;simp) fun hsep=>?_
 rw[Tryz.results35]
 have hE:=hsep
 try simp only[zzs] at hE
 repeat(obtain⟨hx',hE⟩:=hE)
 repeat' first
  |with_reducible first|refine Nx.go ?_ |refine Bk.go (fun _=>?_) fun _=>?_ |refine Nb fun nb hnb hnb1 hnb2=>?_
  |simp -dsimp -implicitDefEqProofs (disch:=first|exact Kd|fail) only[go_sem,↓reduceIte,seval]
 ·rename_i hne
  have hxy:xs.length=ys.length:=by omega
  refine Tri.loopU tok [0,1,4,5,10,12,13,14,24] Kk [0,1,4,12,13] (fun n G' l H'=> ∃i:Nat,i+n=xs.length∧(∀j (h:j<xs.length),j<i→xs[j]=ys[j])∧G'=G∧H'=H∧l=[(0, .slice a xs.length cap),(1, .slice a' ys.length cap'),(4, .bool false),(12, .int .i64 xs.length),(13, .int .i64 i)]) (xs.length) (Upd.now ?_) ?_
  ·exact⟨0,by omega,fun j _ h=>by omega,rfl,rfl,rfl⟩
  ·rintro n G' l H' hle hs ⟨i,hi,hno,rfl,rfl,rfl⟩
   by_cases hil:i<xs.length
   ·have hil':i<ys.length:=by omega
    repeat' first
     |with_reducible first|refine Nx.go ?_ |refine Bk.go (fun _=>?_) fun _=>?_ |refine Nb fun nb hnb hnb1 hnb2=>?_
     |with_reducible refine Tri.drawH tok mixed [0,1,4,5,10,12,13,14,24] 6 [3,7] (.op 0 .plain (.op 1 .plain (.op 2 .plain (.op 3 .held (.op 4 .plain (.op 5 .plain (.op 6 .plain (.op 7 .held (.op 8 .plain .nil))))))))) Kk [0,1] ?_
     |simp -dsimp -implicitDefEqProofs (disch:=first|exact Kd|fail) only[go_sem,↓reduceIte,seval,Row.obj hrow,Row.obj hrow',List.getElem_map]
    ·rename_i he
     exact Upd.now ⟨n - 1,by omega,i+1,by omega,fun j h hj=>by
      by_cases e:j=i
      ·subst e;exact he
      ·exact hno j h Ko,rfl,rfl,rfl⟩
    ·rename_i he
     rw[decide_eq_false (fun e=>he (by subst e;rfl))] at hR
     all_goals refine Upd.finL ?_ hR ?_
     any_goals first|exact Ks|skip
     rfl
   ·obtain rfl:i=xs.length:=by omega
    rw[decide_eq_true (List.ext_getElem hxy fun j h1 h2=>hno j h1 h1)] at hR
    repeat' first
     |with_reducible first|refine Nx.go ?_ |refine Bk.go (fun _=>?_) fun _=>?_ |refine Nb fun nb hnb hnb1 hnb2=>?_
     |simp -dsimp -implicitDefEqProofs (disch:=first|exact Kd|fail) only[go_sem,↓reduceIte,seval]
    all_goals refine Upd.finL ?_ hR ?_
    any_goals first|exact Ks|skip
    rfl
 ·rename_i hne
  rw[decide_eq_false (fun e=>hne (by subst e;rfl))] at hR
  all_goals refine Upd.finL ?_ hR ?_
  any_goals first|exact Ks|skip
  rfl
theorem zbD {α:Type} [DecidableEq α] {l:List α} {i:Nat} (hi:i<l.length): ∃p,place l l[i]=some p∧p≤i∧(∃h:p<l.length,l[p]=l[i])∧(p=i↔l[i]∉l.take i):=by
 obtain⟨p,hp⟩:=zS (List.getElem_mem hi)
 have hp':=hp
 unfold place at hp'
 rw[List.findIdx?_eq_some_iff_getElem] at hp'
 obtain⟨h1,h2,h3⟩:=hp'
 have h2:=of_decide_eq_true h2
 have hle:p≤i:=by
  rcases Nat.lt_or_ge i p with h|h
  ·have:=h3 i h;simp at this
  ·exact h
 refine⟨p,hp,hle,⟨h1,h2.symm⟩,?_⟩
 constructor
 ·rintro rfl hm
  obtain⟨j,hj,e⟩:=(zaG hi).1 hm
  have:=h3 j hj
  simp [e] at this
 ·intro hm
  rcases Nat.lt_or_ge p i with h|h
  ·exact absurd ((zaG hi).2 ⟨p,h,h2.symm⟩) hm
  ·omega
end Go.Proofs.YtefkpedhbijhkaaGreatDoor
namespace Go.Proofs.YtefkpedhbijhkaaGreatDoor
open Go Go.V Go.Proofs
section plain
variable {α:Type} [DecidableEq α]
end plain
end Go.Proofs.YtefkpedhbijhkaaGreatDoor
namespace Go.Proofs.YtefkpedhbijhkaaGreatDoor
open Go Go.V Go.Proofs
theorem zjt {d:Nat} {t e n:Nat} {k:IntKind} (ht:(T t).k= .arr n e) (he:(T e).k= .int k) (hs:(T e).size=1) {xs ys:List Int} (hx:xs.length=n) (hy:ys.length=n):
  eqT T (d+2) t (.agg (xs.map (Value.int k)).toArray) (.agg (ys.map (Value.int k)).toArray)=some (decide (xs=ys)):=by
 have:=zgX (T:=T) (d:=d) he hs xs ys [] [] Ko rfl
 simp only[List.length_nil,List.nil_append] at this
 unfold eqT
 simp only[ht,he,TK.known,if_true,←hx,List.toList_toArray]
 exact this
abbrev u8L (l:List Int):List Value:=l.map (Value.int .u8)
abbrev zcm (l:List Int):Value:= .agg (u8L l).toArray
theorem zsg {l:List Int} {i:Nat} (h:i<l.length) (sp:List Value):(u8L l++sp)[i]? =some (.int .u8 l[i]):=by
 rw[List.getElem?_append_left (by simpa using h),List.getElem?_map,List.getElem?_eq_getElem h];rfl
theorem he8:zdZ T 5 (Value.int .u8):=zkn (T:=T) (t:=5) rfl
theorem znc {l:List Int} {b1 i:Nat} (hl:l.length=256) (hi:i<l.length) {G:za} {H:zb} {R:Value→za→zb→Prop}
  (hg1:G b1=none) (hf:zq H b1=some (.cells (u8L l) [] 22)) (hR:R (.int .u8 l[i]) G H):FnT Tryz.prog 108 [.int .i64 (i:Nat), .pointer (some ⟨b1,0,none⟩)] G H R:=by
 have hget:=zsg hi []
 rw[List.append_nil] at hget
 refine FnT.body tok [0,1,3] Tryz.func108 rfl Kk Kk (by show _≤7;simp) fun hsep=>?_
 rw[Tryz.results108]
 have hE:=hsep
 try simp only[zzs] at hE
 repeat(obtain⟨hx',hE⟩:=hE)
 repeat' first
  |with_reducible first|refine Nx.go ?_ |refine Bk.go (fun _=>?_) fun _=>?_
  |simp -dsimp -implicitDefEqProofs (disch:=first|exact Kd|fail) only[go_sem,↓reduceIte,seval, -List.reduceReplicate,hf,hget,List.append_nil]
 all_goals refine Upd.finL ?_ hR ?_
 any_goals first|exact Ks|skip
 rfl
theorem zfm {n:Nat} (h:n<256):IntKind.u8.wrap (n:Int)=n:=by
 simp only[IntKind.wrap,IntKind.bits,IntKind.signed];simp;omega
def zch (l:List Int) (i:Nat):List Int:=zf (l.take i)++List.replicate (256 - i) 0
theorem zid {l:List Int} (hl:l.length=256) {i:Nat} (hi:i≤256):(zch l i).length=256:=by
 unfold zch;rw[List.length_append,zv,List.length_take,List.length_replicate];omega
theorem zlG {l:List Int} (hl:l.length=256) {i:Nat} (hi:i<256) {n:Int} (h:zf (l.take (i+1))=zf (l.take i)++[n]):zi (u8L (zch l i)) i [.int .u8 n]=u8L (zch l (i+1)):=by
 have hn:(zf (l.take i)).length=i:=by rw[zv,List.length_take];omega
 unfold zi zch u8L
 rw[h,List.map_append,List.map_append,List.map_append,List.map_replicate,List.map_replicate,show 256 - i=(256 - (i+1))+1 by omega,List.replicate_succ]
 rw[List.take_append_of_le_length (by rw[List.length_map];omega),List.take_of_length_le (by rw[List.length_map];omega)]
 rw[List.drop_append,List.drop_of_length_le (by rw[List.length_map];simp;omega)]
 simp [hn]
theorem zkt (l:List Int):List.replicate 256 (Value.int .u8 0)=u8L (zch l 0):=by
 unfold zch u8L;rw[List.take_zero,zna,List.nil_append,List.map_replicate]
theorem zsh {l:List Int} (hl:l.length=256):zch l 256=zf l:=by
 unfold zch;rw[←hl,List.take_length];simp
theorem zw4 {l:List Int} (hl:l.length=256) {b1:Nat} {G:za} {H:zb} {R:Value→za→zb→Prop} (hg1:G b1=none) (hf:zq H b1=some (.cells (u8L l) [] 22))
  (hR:R (.tuple #[zcm (zf l), .int .i64 (zl l).length]) G H):FnT Tryz.prog 107 [.func (.func 108) #[] #[.pointer (some ⟨b1,0,none⟩)]] G H R:=by
 refine FnT.body tok [0,2,3,4,5,6,7,8,9,11,12,24] Tryz.func107 rfl Kk Kk (by show _≤38;simp) fun hsep=>?_
 rw[Tryz.results107]
 have hE:=hsep
 try simp only[zzs] at hE
 repeat(obtain⟨hx',hE⟩:=hE)
 repeat' first
  |with_reducible first|refine Nx.go ?_ |refine Bk.go (fun _=>?_) fun _=>?_ |refine zas.mk (fun _ _=>?_) fun _=>?_ |refine Nb fun nb hnb hnb1 hnb2=>?_ |refine Nr fun nb nsp ncap hnb hncap hnb1 hnb2=>?_
  |simp -dsimp -implicitDefEqProofs (disch:=first|exact Kd|fail) only[go_sem,↓reduceIte,seval, -List.reduceReplicate]
 rename_i b2 hb20 hb21 hb22 b4 hb40 hb41 hb42
 revert nb
 intro bm hbm hbm1 hbm2
 have n2:=zL.neFind hb22 hf
 have n4:=zL.neFind hb42.2 hf
 have nm:=zL.neFind hbm2.2.2 hf
 rw[zkt l]
 refine Tri.loopU tok [0,2,3,4,5,6,7,8,9,11,12,24] Kk [0,2,3,4,5,11] (fun q G' fr H'=> ∃ (i:Nat),i+q=256∧G'=G∧H'=(bm, .map ((zbh 0 (zl (l.take i))).map fun p=>((Value.int .u8) p.1,Value.int .u8 p.2))):: (b4, .cells (u8L (zch l i)) [] 22):: (b2, .cells (u8L (zch l 0)) [] 22)::H∧fr=[(0, .func (.func 108) #[] #[.pointer (some ⟨b1,0,none⟩)]),(2, .pointer (some ⟨b2,0,none⟩)),(3, .int .i64 0),(4, .pointer (some ⟨b4,0,none⟩)),(5, .map (some bm)),(11, .int .i64 i)]) (256) ?_ ?_
 ·exact Upd.now ⟨0,by omega,rfl,rfl,rfl⟩
 ·rintro q G1 fr H' hle hs ⟨i,hi,rfl,rfl,rfl⟩
  have hE:=hs
  try simp only[zzs] at hE
  repeat(obtain⟨hx',hE⟩:=hE)
  have htl:=zam (l.take i)
  rw[List.length_take] at htl
  have h8:(zch l i).length=256:=zid hl Ko
  by_cases hil:i<256
  ·have hil2:i<l.length:=by omega
   have htk:=List.take_succ_eq_append_getElem hil2
   have hw:=zfm (n:=(zl (l.take i)).length) Ko
   rcases hp:place (zl (l.take i)) l[i] with _|n
   ·have hnn:=zcy hp
    rw[←htk] at hnn
    have hput:=zlG hl hil hnn.2
    repeat' first
     |with_reducible first|refine Nx.go ?_ |refine Bk.go (fun _=>?_) fun _=>?_ |refine zas.mk (fun _ _=>?_) fun _=>?_ |refine Nb fun nb hnb hnb1 hnb2=>?_ |refine Nr fun nb nsp ncap hnb hncap hnb1 hnb2=>?_
     |simp -dsimp -implicitDefEqProofs (disch:=first|exact Kd|fail) only[go_sem,↓reduceIte,seval, -List.reduceReplicate,zbC he8 (Value.int .u8),zbq he8,zbx,Option.map_map,zb8 he8 (Value.int .u8),zcw,hp,List.length_map,zcu,hw,hput]
     |with_reducible refine znc hl hil2 Ka ?_ ?_
     |exact hf
    rw[←hnn.1]
    exact Upd.now ⟨q - 1,by omega,i+1,by omega,rfl,rfl,rfl⟩
   ·have hnn:=zcW hp
    rw[←htk] at hnn
    have hput:=zlG hl hil hnn.2
    repeat' first
     |with_reducible first|refine Nx.go ?_ |refine Bk.go (fun _=>?_) fun _=>?_ |refine zas.mk (fun _ _=>?_) fun _=>?_ |refine Nb fun nb hnb hnb1 hnb2=>?_ |refine Nr fun nb nsp ncap hnb hncap hnb1 hnb2=>?_
     |simp -dsimp -implicitDefEqProofs (disch:=first|exact Kd|fail) only[go_sem,↓reduceIte,seval, -List.reduceReplicate,zbC he8 (Value.int .u8),zbq he8,zbx,Option.map_map,zb8 he8 (Value.int .u8),zcw,hp,List.length_map,zcu,hput]
     |with_reducible refine znc hl hil2 Ka ?_ ?_
     |exact hf
    exact Upd.now ⟨q - 1,by omega,i+1,by omega,rfl,by rw[hnn.1],rfl⟩
  ·obtain rfl:i=256:=by omega
   have hnl:(zf l).length=256:=by rw[zv,hl]
   have htake:List.take 256 (u8L (zf l))=u8L (zf l):=List.take_of_length_le (by rw[List.length_map,hnl];omega)
   have h80:(zch l 0).length=256:=zid hl Ko
   have hspl:zi (u8L (zch l 0)) 0 (u8L (zf l))=u8L (zf l):=by
    unfold zi
    rw[List.take_zero,List.nil_append,List.drop_of_length_le (by simp [hnl,h80]),List.append_nil]
   have h256:List.take 256 l=l:=List.take_of_length_le Ko
   rw[zsh hl,h256]
   repeat' first
    |with_reducible first|refine Nx.go ?_ |refine Bk.go (fun _=>?_) fun _=>?_ |refine zas.mk (fun _ _=>?_) fun _=>?_ |refine Nb fun nb hnb hnb1 hnb2=>?_ |refine Nr fun nb nsp ncap hnb hncap hnb1 hnb2=>?_
    |simp -dsimp -implicitDefEqProofs (disch:=first|exact Kd|fail) only[go_sem,↓reduceIte,seval, -List.reduceReplicate,htake,List.length_map,hnl,h80,hspl,zcu]
   all_goals refine Upd.finL ?_ hR ?_
   any_goals first|exact Ks|skip
   rfl
theorem zlf {l:List Int} (hl:l.length=256) {G:za} {H:zb} {R:Value→za→zb→Prop}
  (hR:R (.tuple #[zcm (zf l), .int .i64 (zl l).length]) G H):FnT Tryz.prog 79 [zcm l] G H R:=by
 have hnl:(zf l).length=256:=by rw[zv,hl]
 have h80:(zch l 0).length=256:=zid hl Ko
 have hspl:zi (u8L (zch l 0)) 0 (u8L (zf l))=u8L (zf l):=by
  unfold zi
  rw[List.take_zero,List.nil_append,List.drop_of_length_le (by simp [hnl,h80]),List.append_nil]
 have htake:List.take 256 (u8L (zf l))=u8L (zf l):=List.take_of_length_le (by rw[List.length_map,hnl];omega)
 refine FnT.body tok [0,1,2,3] Tryz.func79 rfl Kk Kk (by show _≤8;simp) fun hsep=>?_
 rw[Tryz.results79]
 have hE:=hsep
 try simp only[zzs] at hE
 repeat(obtain⟨hx',hE⟩:=hE)
 repeat' first
  |with_reducible first|refine Nx.go ?_ |refine Bk.go (fun _=>?_) fun _=>?_ |refine Nb fun nb hnb hnb1 hnb2=>?_
  |simp -dsimp -implicitDefEqProofs (disch:=first|exact Kd|fail) only[go_sem,↓reduceIte,seval, -List.reduceReplicate,List.toList_toArray,List.length_map,hl,zkt l,hspl,h80,hnl,htake]
  |with_reducible refine zw4 hl Ka ?_ ?_
 all_goals refine Upd.finL ?_ hR ?_
 any_goals first|exact Ks|skip
 rfl
theorem zuq {l:List Int} (hl:l.length=256) (w:Int) {G:za} {H:zb} {R:Value→za→zb→Prop}
  (hR:R (.bool (decide (zf l=l)&&decide (((zl l).length:Int)=w))) G H):FnT Tryz.prog 67 [zcm l, .int .i64 w] G H R:=by
 have hnl:(zf l).length=256:=by rw[zv,hl]
 have hspl:zi (List.replicate 256 (Value.int .u8 0)) 0 (u8L (zf l))=u8L (zf l):=by
  unfold zi
  rw[List.take_zero,List.nil_append,List.drop_of_length_le (by rw[List.length_replicate,List.length_map,hnl];exact Nat.le_refl _),List.append_nil]
 have htake:List.take 256 (u8L (zf l))=u8L (zf l):=List.take_of_length_le (by rw[List.length_map,hnl];omega)
 have htake2:List.take 256 (u8L l)=u8L l:=List.take_of_length_le (by rw[List.length_map,hl];omega)
 have heq:eqT T 9 22 (zcm (zf l)) (zcm l)=some (decide (zf l=l)):=zjt (d:=7) (t:=22) (e:=5) (n:=256) (k:= .u8) rfl rfl rfl hnl hl
 refine FnT.body tok [0,1,2,4,5,6] Tryz.func67 rfl Kk Kk (by show _≤20;simp) fun hsep=>?_
 rw[Tryz.results67]
 have hE:=hsep
 try simp only[zzs] at hE
 repeat(obtain⟨hx',hE⟩:=hE)
 repeat' first
  |with_reducible first|refine Nx.go ?_ |refine Bk.go (fun _=>?_) fun _=>?_ |refine Nb fun nb hnb hnb1 hnb2=>?_
  |simp -dsimp -implicitDefEqProofs (disch:=first|exact Kd|fail) only[go_sem,↓reduceIte,seval, -List.reduceReplicate,List.toList_toArray,List.length_map,hl,hnl,htake,htake2,hspl,heq,List.length_replicate]
  |with_reducible refine zlf hl ?_
 ·rename_i he
  rw[decide_eq_true he,Bool.true_and] at hR
  all_goals refine Upd.finL ?_ hR ?_
  any_goals first|exact Ks|skip
  rfl
 ·rename_i he
  rw[decide_eq_false he,Bool.false_and] at hR
  all_goals refine Upd.finL ?_ hR ?_
  any_goals first|exact Ks|skip
  rfl
end Go.Proofs.YtefkpedhbijhkaaGreatDoor
namespace Go.Proofs.YtefkpedhbijhkaaGreatDoor
open Go Go.V Go.Proofs
def zfn (n:Nat):Bool:=decide (97≤n∧n≤122)||decide (65≤n∧n≤90)||decide (n=95)
def zfG (n:Nat) (first:Bool):Bool:=if 48≤n∧n≤57 then !first else zfn n
theorem zsi: ∀c:Fin 256,zfn c.val=(decide (c.val=95)||(decide (97≤c.val|||32)&&decide (c.val|||32≤122))):=by decide+kernel
theorem zw5: ∀c:Fin 256,∀b:Bool,zfG c.val b=(zfn c.val||(!b&&decide (48≤c.val)&&decide (c.val≤57))):=by decide+kernel
theorem zwe {x y:Nat} (hx:x<256) (hy:y<256):zaC .or .u8 (x:Int) (y:Int)=((x|||y:Nat):Int):=by
 simp only[zaC,BitVec.ofInt_natCast]
 have:(BitVec.ofNat IntKind.u8.bits x|||BitVec.ofNat IntKind.u8.bits y).toNat=x|||y:=by
  show(BitVec.ofNat 8 x|||BitVec.ofNat 8 y).toNat=x|||y
  rw[BitVec.toNat_or,BitVec.toNat_ofNat,BitVec.toNat_ofNat,Nat.mod_eq_of_lt Ko,Nat.mod_eq_of_lt Ko]
 rw[this]
 have h2:x|||y<256:=show x|||y<2 ^ 8 from Nat.or_lt_two_pow Ko Ko
 exact zfm h2
theorem znd (n:Nat) (hn:n<256) {G:za} {H:zb} {R:Value→za→zb→Prop} (hR:R (.bool (zfn n)) G H):FnT Tryz.prog 143 [.int .u8 (n:Nat)] G H R:=by
 have ho:=zwe hn (y:=32) Ko
 have hl:=zsi ⟨n,hn⟩
 simp only[] at hl
 generalize n|||32=m at ho hl
 have ho':zaC .or .u8 (n:Int) 32=(m:Int):=ho
 rw[hl] at hR
 refine FnT.body tok [0,2] Tryz.func143 rfl Kk Kk (by show _≤15;simp) fun hsep=>?_
 rw[Tryz.results143]
 have hE:=hsep
 try simp only[zzs] at hE
 repeat(obtain⟨hx',hE⟩:=hE)
 repeat' first
  |with_reducible first|refine Nx.go ?_ |refine Bk.go (fun _=>?_) fun _=>?_
  |simp -dsimp -implicitDefEqProofs (disch:=first|exact Kd|fail) only[go_sem,↓reduceIte,seval,ho']
 all_goals refine Upd.finL ?_ hR ?_
 any_goals first|exact Ks|skip
 all_goals (simp only[Value.bool.injEq];rw[Bool.eq_iff_iff];simp;omega)
def okS (s:List UInt8):Prop:= ∀i (h:i<s.length),zfG s[i].toNat (decide (i=0))=true
noncomputable def zdx (s:List UInt8):Bool:= @decide (1≤s.length∧s.length≤32∧okS s) (Classical.propDecidable _)
theorem zf8 {s:List UInt8}:zdx s=true↔1≤s.length∧s.length≤32∧okS s:=by unfold zdx;exact @decide_eq_true_iff _ (Classical.propDecidable _)
theorem zju {s:List UInt8} (h: ¬(1≤s.length∧s.length≤32∧okS s)):zdx s=false:=by
 cases hb:zdx s with
 |false=>rfl
 |true=>exact absurd (zf8.1 hb) h
theorem zxZ (s:List UInt8) (hlen:s.length≤2000000) {G:za} {H:zb} {R:Value→za→zb→Prop} (hR: ∀n:Nat,n≤s.length→(n=s.length↔okS s)→R (.int .i64 n) G H):FnT Tryz.prog 123 [str s] G H R:=by
  refine FnT.body tok [0,2,3,29] Tryz.func123 rfl Kk Kk (by show _≤33;simp) fun hsep=>?_
  rw[Tryz.results123]
  have hE:=hsep
  try simp only[zzs] at hE
  repeat(obtain⟨hx',hE⟩:=hE)
  repeat' first
    |with_reducible first|refine Nx.go ?_ |refine Bk.go (fun _=>?_) fun _=>?_ |refine Nb fun nb hnb hnb1 hnb2=>?_
    |simp -dsimp -implicitDefEqProofs (disch:=first|exact Kd|fail) only[go_sem,↓reduceIte,seval]
  refine Tri.loopU tok [0,2,3,29] Kk [0,2,3] (fun q G' fr H'=> ∃i:Nat,i+q=s.length∧(∀j (h:j<s.length),j<i→zfG s[j].toNat (decide (j=0))=true)∧G'=G∧H'=H∧fr=[(0,str s),(2, .int .i64 0),(3, .int .i64 i)]) (s.length) (Upd.now ?_) ?_
  · exact⟨0,by omega,fun j _ h=>by omega,rfl,rfl,rfl⟩
  · rintro q G' fr H' hle hs ⟨i,hi,hno,rfl,rfl,rfl⟩
    by_cases hil:i<s.length
    · have hb:s[i].toNat<256:=s[i].toNat_lt
      have hmay:=zw5 ⟨s[i].toNat,hb⟩ (decide (i=0))
      simp only[] at hmay
      cases hL:zfn s[i].toNat with
      |true=>
        have hm:zfG s[i].toNat (decide (i=0))=true:=by rw[hmay,hL];rfl
        repeat' first
          |with_reducible first|refine Nx.go ?_ |refine Bk.go (fun _=>?_) fun _=>?_ |refine Nb fun nb hnb hnb1 hnb2=>?_
          |simp -dsimp -implicitDefEqProofs (disch:=first|exact Kd|fail) only[go_sem,↓reduceIte,seval,hL]
          |with_reducible refine znd _ hb ?_
        exact Upd.now ⟨q - 1, by omega, i + 1, by omega, fun j h hj => by
            by_cases e:j=i
            · subst e;exact hm
            · exact hno j h Ko,rfl,rfl,rfl⟩
      |false=>
        rw[hL,Bool.false_or] at hmay
        have hmp:zfG s[i].toNat (decide (i=0))=true↔(i≠0∧48≤s[i].toNat)∧s[i].toNat≤57:=by rw[hmay];simp
        repeat' first
          |with_reducible first|refine Nx.go ?_ |refine Bk.go (fun _=>?_) fun _=>?_ |refine Nb fun nb hnb hnb1 hnb2=>?_
          |simp -dsimp -implicitDefEqProofs (disch:=first|exact Kd|fail) only[go_sem,↓reduceIte,seval,hL]
          |with_reducible refine znd _ hb ?_
        all_goals first
          | (have hm:zfG s[i].toNat (decide (i=0))=true:=hmp.2 Ko
             exact Upd.now ⟨q - 1,by omega,i+1,by omega,fun j h hj=>by
            by_cases e:j=i
            · subst e;exact hm
            · exact hno j h Ko,rfl,rfl,rfl⟩)
          | (have hm : ¬ zfG s[i].toNat (decide (i = 0)) = true := fun h => by
               have:=hmp.1 h
               omega
             exact Upd.finL Ks (hR i Ko ⟨fun e=>by omega,fun hok=>absurd (hok i hil) hm⟩) rfl)
    · obtain rfl:i=s.length:=by omega
      repeat' first
        |with_reducible first|refine Nx.go ?_ |refine Bk.go (fun _=>?_) fun _=>?_ |refine Nb fun nb hnb hnb1 hnb2=>?_
        |simp -dsimp -implicitDefEqProofs (disch:=first|exact Kd|fail) only[go_sem,↓reduceIte,seval]
      all_goals refine Upd.finL ?_ (hR s.length (Nat.le_refl _) ⟨fun _ j h=>hno j h h,fun _=>rfl⟩) ?_
      any_goals first|exact Ks|skip
      rfl
theorem zw6 (s:List UInt8) (hlen:s.length≤2000000) {G:za} {H:zb} {R:Value→za→zb→Prop} (hR:R (.bool (zdx s)) G H):FnT Tryz.prog 101 [str s] G H R:=by
  by_cases h1:1≤s.length
  · have hs0:s≠[]:=fun e=>by subst e;simp at h1
    by_cases h2:s.length≤32
    · refine FnT.body tok [0,2] Tryz.func101 rfl Kk Kk (by show _≤17;simp) fun hsep=>?_
      rw[Tryz.results101]
      have hE:=hsep
      try simp only[zzs] at hE
      repeat(obtain⟨hx',hE⟩:=hE)
      repeat' first
        |with_reducible first|refine Nx.go ?_ |refine Bk.go (fun _=>?_) fun _=>?_
        |simp -dsimp -implicitDefEqProofs (disch:=first|exact Kd|fail) only[go_sem,↓reduceIte,seval]
        |with_reducible refine zxZ s hlen fun n hn hok=>?_
      all_goals first
        |exact absurd Ka hs0
        | (refine Upd.finL Ks hR ?_
           simp only[Value.bool.injEq]
           rw[Bool.eq_iff_iff,zf8,decide_eq_true_eq,←hok]
           omega)
        | (exfalso;omega)
    · rw[zju fun h=>h2 h.2.1] at hR
      refine FnT.body tok [0,2] Tryz.func101 rfl Kk Kk (by show _≤17;simp) fun hsep=>?_
      rw[Tryz.results101]
      have hE:=hsep
      try simp only[zzs] at hE
      repeat(obtain⟨hx',hE⟩:=hE)
      repeat' first
        |with_reducible first|refine Nx.go ?_ |refine Bk.go (fun _=>?_) fun _=>?_
        |simp -dsimp -implicitDefEqProofs (disch:=first|exact Kd|fail) only[go_sem,↓reduceIte,seval]
      all_goals try(exfalso;omega)
      all_goals refine Upd.finL ?_ hR ?_
      any_goals first|exact Ks|skip
      all_goals rfl
  · rw[zju fun h=>h1 h.1] at hR
    obtain rfl:s=[]:=List.eq_nil_of_length_eq_zero Ko
    refine FnT.body tok [0,2] Tryz.func101 rfl Kk Kk (by show _≤17;simp) fun hsep=>?_
    rw[Tryz.results101]
    have hE:=hsep
    try simp only[zzs] at hE
    repeat(obtain⟨hx',hE⟩:=hE)
    repeat' first
      |with_reducible first|refine Nx.go ?_ |refine Bk.go (fun _=>?_) fun _=>?_
      |simp -dsimp -implicitDefEqProofs (disch:=first|exact Kd|fail) only[go_sem,↓reduceIte,seval]
    all_goals try(rename_i hno;exact absurd rfl hno)
    all_goals refine Upd.finL ?_ hR ?_
    any_goals first|exact Ks|skip
    all_goals rfl
theorem zpi (l:List (List UInt8)) (x:List UInt8) (hlen:l.length≤2000000) {G:za} {H:zb} {R:Value→za→zb→Prop} {v:Value} (hv:Sl G str v l) (hR:R (.int .i64 (zp l x)) G H):FnT Tryz.prog 75 [v,str x] G H R:=by
 obtain⟨a,cap,rfl,hrow,hcap⟩:=hv
 refine FnT.body tok [0,1,4,5,7,8,9,16] Tryz.func75 rfl Kk Kk (by show _≤19;simp) fun hsep=>?_
 rw[Tryz.results75]
 have hE:=hsep
 try simp only[zzs] at hE
 repeat(obtain⟨hx',hE⟩:=hE)
 repeat' first
  |with_reducible first|refine Nx.go ?_ |refine Bk.go (fun _=>?_) fun _=>?_ |refine Nb fun nb hnb hnb1 hnb2=>?_
  |simp -dsimp -implicitDefEqProofs (disch:=first|exact Kd|fail) only[go_sem,↓reduceIte,seval]
 refine Tri.loopU tok [0,1,4,5,7,8,9,16] Kk [0,1,4,7,8] (fun n G' fr H'=> ∃i:Nat,i+n=l.length∧(∀j (h:j<l.length),j<i→l[j]≠x)∧G'=G∧H'=H∧fr=[(0, .slice a l.length cap),(1,str x),(4, .int .i64 0),(7, .int .i64 l.length),(8, .int .i64 i)]) (l.length) (Upd.now ?_) ?_
 ·exact⟨0,by omega,fun j _ h=>by omega,rfl,rfl,rfl⟩
 ·rintro n G' fr H' hle hs ⟨i,hi,hno,rfl,rfl,rfl⟩
  by_cases hil:i<l.length
  ·have had:Adr a:=hrow.adr (by rw[List.length_map];omega)
   repeat' first
    |with_reducible first|refine Nx.go ?_ |refine Bk.go (fun _=>?_) fun _=>?_ |refine Nb fun nb hnb hnb1 hnb2=>?_
    |simp -dsimp -implicitDefEqProofs (disch:=first|exact Kd|fail) only[go_sem,↓reduceIte,seval,Row.obj hrow,List.getElem_map]
   ·rename_i he
    have hp:place l x=some i:=by
     unfold place
     rw[List.findIdx?_eq_some_iff_getElem]
     exact⟨hil,by simp [he],fun j hj=>by have:=hno j Ko hj;simp;exact fun e=>this e.symm⟩
    rw[zx hp] at hR
    all_goals refine Upd.finL ?_ hR ?_
    any_goals first|exact Ks|skip
    rfl
   ·rename_i he
    exact Upd.now ⟨n - 1,by omega,i+1,by omega,fun j h hj=>by
     by_cases e:j=i
     ·subst e;exact fun e=>he e.symm
     ·exact hno j h Ko,rfl,rfl,rfl⟩
  ·obtain rfl:i=l.length:=by omega
   have hp:place l x=none:=zbt fun hm=>by
    obtain⟨j,hj,e⟩:=List.getElem_of_mem hm
    exact hno j hj hj e
   rw[zdc hp] at hR
   repeat' first
    |with_reducible first|refine Nx.go ?_ |refine Bk.go (fun _=>?_) fun _=>?_ |refine Nb fun nb hnb hnb1 hnb2=>?_
    |simp -dsimp -implicitDefEqProofs (disch:=first|exact Kd|fail) only[go_sem,↓reduceIte,seval]
   all_goals refine Upd.finL ?_ hR ?_
   any_goals first|exact Ks|skip
   rfl
theorem zhc (l:List (List UInt8)) (x:List UInt8) (hlen:l.length≤2000000) {G:za} {H:zb} {R:Value→za→zb→Prop} {v:Value} (hv:Sl G str v l) (hR:R (.bool (decide (x∈l))) G H):FnT Tryz.prog 72 [v,str x] G H R:=by
 have hv0:=hv
 obtain⟨a,cap,rfl,hrow,hcap⟩:=hv
 refine FnT.body tok [0,1,4] Tryz.func72 rfl Kk Kk (by show _≤9;simp) fun hsep=>?_
 rw[Tryz.results72]
 have hE:=hsep
 try simp only[zzs] at hE
 repeat(obtain⟨hx',hE⟩:=hE)
 repeat' first
  |with_reducible first|refine Nx.go ?_ |refine Bk.go (fun _=>?_) fun _=>?_
  |simp -dsimp -implicitDefEqProofs (disch:=first|exact Kd|fail) only[go_sem,↓reduceIte,seval]
  |with_reducible refine zpi l x hlen hv0 ?_
 all_goals refine Upd.finL ?_ hR ?_
 any_goals first|exact Ks|skip
 simp only[Value.bool.injEq]
 rw[Bool.eq_iff_iff,decide_eq_true_eq,decide_eq_true_eq]
 constructor
 ·intro h
  cases hp:place l x with
  |none=>rw[zdc hp] at h;omega
  |some n=>
   obtain⟨h1,h2⟩:=zR hp
   rw[List.getElem?_eq_getElem h1,Option.some.injEq] at h2
   exact h2▸List.getElem_mem h1
 ·intro h
  obtain⟨n,hn⟩:=zS h
  rw[zx hn];omega
end Go.Proofs.YtefkpedhbijhkaaGreatDoor
namespace Go.Proofs.YtefkpedhbijhkaaGreatDoor
open Go Go.V Go.Proofs
def zaZ (l:List (List UInt8)):Prop:=l.length≤64∧ ∀i (h:i<l.length),zdx l[i]=true∧l[i]∉l.take i
noncomputable def zaE (p:Prop):Bool:= @decide p (Classical.propDecidable p)
theorem zbY {p:Prop}:zaE p=true↔p:=by unfold zaE;exact @decide_eq_true_iff p (Classical.propDecidable p)
theorem zG {p:Prop} (h:p):zaE p=true:=zbY.2 h
theorem zB {p:Prop} (h: ¬p):zaE p=false:=by
 cases hb:zaE p with
 |false=>rfl
 |true=>exact absurd (zbY.1 hb) h
theorem zwf (l:List (List UInt8)) (hlen:l.length≤2000000) (hstr: ∀s∈l,s.length≤2000000) {G:za} {H:zb} {R:Value→za→zb→Prop} {v:Value} (hv:Sl G str v l) (hR:R (.bool (zaE (zaZ l))) G H):FnT Tryz.prog 68 [v] G H R:=by
 obtain⟨a,cap,rfl,hrow,hcap⟩:=hv
 by_cases h64:l.length≤64
 ·refine FnT.body tok [0,2,3,4,7,8,9,10,11,24] Tryz.func68 rfl Kk Kk (by show _≤26;simp) fun hsep=>?_
  rw[Tryz.results68]
  have hE:=hsep
  try simp only[zzs] at hE
  repeat(obtain⟨hx',hE⟩:=hE)
  repeat' first
   |with_reducible first|refine Nx.go ?_ |refine Bk.go (fun _=>?_) fun _=>?_ |refine Nb fun nb hnb hnb1 hnb2=>?_
   |simp -dsimp -implicitDefEqProofs (disch:=first|exact Kd|fail) only[go_sem,↓reduceIte,seval]
  refine Tri.loopU tok [0,2,3,4,7,8,9,10,11,24] Kk [0,2,8,9,10] (fun n G' fr H'=> ∃i:Nat,i+n=l.length∧(∀j (h:j<l.length),j<i→zdx l[j]=true∧l[j]∉l.take j)∧G'=G∧H'=H∧fr=[(0, .slice a l.length cap),(2, .bool false),(8, .slice a l.length cap),(9, .int .i64 l.length),(10, .int .i64 i)]) (l.length) (Upd.now ?_) ?_
  ·exact⟨0,by omega,fun j _ h=>by omega,rfl,rfl,rfl⟩
  ·rintro n G' fr H' hle hs ⟨i,hi,hno,rfl,rfl,rfl⟩
   by_cases hil:i<l.length
   ·have had:Adr a:=hrow.adr (by rw[List.length_map];omega)
    have hsub:Sl G' str (.slice (zez a 0 cap 0) (i - 0) (cap - 0)) (l.take i):=⟨_,_,by rw[List.length_take,Nat.min_eq_left Ko];rfl,by
     have h1:=(Row.drop hrow (l:=0) (m:=cap) (s:=1) (fun e=>by rw[List.length_map];omega)).take i
     rw[List.map_take]
     exact h1,by rw[List.length_take];omega⟩
    have hsi:=hstr l[i] (List.getElem_mem hil)
    repeat' first
     |with_reducible first|refine Nx.go ?_ |refine Bk.go (fun _=>?_) fun _=>?_ |refine Nb fun nb hnb hnb1 hnb2=>?_
     |simp -dsimp -implicitDefEqProofs (disch:=first|exact Kd|fail) only[go_sem,↓reduceIte,seval,Row.obj hrow,List.getElem_map]
     |with_reducible refine zw6 l[i] hsi ?_
     |with_reducible refine zhc (l.take i) l[i] (by rw[List.length_take];omega) hsub ?_
    ·rename_i hct
     rw[zB fun h=>(h.2 i hil).2 hct] at hR
     all_goals refine Upd.finL ?_ hR ?_
     any_goals first|exact Ks|skip
     rfl
    ·rename_i hnm hct
     exact Upd.now ⟨n - 1,by omega,i+1,by omega,fun j h hj=>by
      by_cases e:j=i
      ·subst e;exact⟨hnm,hct⟩
      ·exact hno j h Ko,rfl,rfl,rfl⟩
    ·rename_i hnm
     rw[zB fun h=>by have:=(h.2 i hil).1;rw[hnm] at this;cases this] at hR
     all_goals refine Upd.finL ?_ hR ?_
     any_goals first|exact Ks|skip
     rfl
   ·obtain rfl:i=l.length:=by omega
    rw[zG ⟨h64,fun i h=>hno i h h⟩] at hR
    repeat' first
     |with_reducible first|refine Nx.go ?_ |refine Bk.go (fun _=>?_) fun _=>?_ |refine Nb fun nb hnb hnb1 hnb2=>?_
     |simp -dsimp -implicitDefEqProofs (disch:=first|exact Kd|fail) only[go_sem,↓reduceIte,seval]
    all_goals refine Upd.finL ?_ hR ?_
    any_goals first|exact Ks|skip
    rfl
 ·rw[zB fun h=>h64 h.1] at hR
  refine FnT.body tok [0,2,3,4,7,8,9,10,11,24] Tryz.func68 rfl Kk Kk (by show _≤26;simp) fun hsep=>?_
  rw[Tryz.results68]
  have hE:=hsep
  try simp only[zzs] at hE
  repeat(obtain⟨hx',hE⟩:=hE)
  repeat' first
   |with_reducible first|refine Nx.go ?_ |refine Bk.go (fun _=>?_) fun _=>?_ |refine Nb fun nb hnb hnb1 hnb2=>?_
   |simp -dsimp -implicitDefEqProofs (disch:=first|exact Kd|fail) only[go_sem,↓reduceIte,seval]
  all_goals try(exfalso;omega)
  all_goals refine Upd.finL ?_ hR ?_
  any_goals first|exact Ks|skip
  rfl
structure DfaT where
 of:List Int
 width:Int
 next:List (List Int)
 label:List Int
 names:List (List UInt8)
def SlS (G:za) (v:Value) (xss:List (List Int)):Prop:= ∃a cap vs,v= .slice a xss.length cap∧Row G a vs∧vs.length=xss.length∧xss.length≤cap∧ ∀i (h:i<xss.length) (h2:i<vs.length),∃b c,vs[i]= .slice b xss[i].length c∧Row G b (xss[i].map (Value.int .i64))∧xss[i].length≤c
theorem SlS.mono {G G':za} (hle:PLe G G') {v:Value} {xss:List (List Int)} (h:SlS G v xss):SlS G' v xss:=by
 obtain⟨a,cap,vs,h1,h2,h3,h4,h5⟩:=h
 refine⟨a,cap,vs,h1,h2.mono hle,h3,h4,fun i h h'=>?_⟩
 obtain⟨b,c,e1,e2,e3⟩:=h5 i h h'
 exact⟨b,c,e1,e2.mono hle,e3⟩
def zc (d:DfaT) (vn vl vs:Value):List Value:=u8L d.of++[.int .i64 d.width,vn,vl,vs]
def IsD (G:za) (d:DfaT) (v:Value):Prop:=d.of.length=256∧(∀x∈d.of,0≤x∧x≤255)∧ ∃vn vl vs,v= .agg (zc d vn vl vs).toArray∧SlS G vn d.next∧Sl G (Value.int .i64) vl d.label∧Sl G str vs d.names
theorem IsD.mono {G G':za} (hle:PLe G G') {d:DfaT} {v:Value} (h:IsD G d v):IsD G' d v:=by
 obtain⟨h1,h2,vn,vl,vs,h3,h4,h5,h6⟩:=h
 exact⟨h1,h2,vn,vl,vs,h3,h4.mono hle,h5.mono hle,h6.mono hle⟩
def zt (d:DfaT):Prop:=d.next.length≤2000000∧(∀r∈d.next,r.length≤2000000)∧d.label.length≤2000000∧d.names.length≤2000000∧ ∀s∈d.names,s.length≤2000000
theorem zab {d:DfaT} (h:d.of.length=256) (vn vl vs:Value):(zc d vn vl vs).length=260:=by unfold zc;rw[List.length_append,List.length_map,h];rfl
theorem zne {d:DfaT} (h:d.of.length=256) (vn vl vs:Value):(zc d vn vl vs)[256]? =some (.int .i64 d.width):=by unfold zc;rw[List.getElem?_append_right (by rw[List.length_map,h];omega),List.length_map,h];rfl
theorem zdG {d:DfaT} (h:d.of.length=256) (vn vl vs:Value):(zc d vn vl vs)[257]? =some vn:=by unfold zc;rw[List.getElem?_append_right (by rw[List.length_map,h];omega),List.length_map,h];rfl
theorem zcX {d:DfaT} (h:d.of.length=256) (vn vl vs:Value):(zc d vn vl vs)[258]? =some vl:=by unfold zc;rw[List.getElem?_append_right (by rw[List.length_map,h];omega),List.length_map,h];rfl
theorem znf {d:DfaT} (h:d.of.length=256) (vn vl vs:Value):(zc d vn vl vs)[259]? =some vs:=by unfold zc;rw[List.getElem?_append_right (by rw[List.length_map,h];omega),List.length_map,h];rfl
theorem zsj {d:DfaT} (h:d.of.length=256) (vn vl vs:Value):(zc d vn vl vs).take 256=u8L d.of:=by unfold zc;rw[List.take_append_of_le_length (by rw[List.length_map,h];omega),List.take_of_length_le (by rw[List.length_map,h];omega)]
theorem zcz {d:DfaT} (h:d.of.length=256) (vn vl vs:Value):(zc d vn vl vs).take 260=zc d vn vl vs:=List.take_of_length_le (by rw[zab h];omega)
end Go.Proofs.YtefkpedhbijhkaaGreatDoor
namespace Go.Proofs.YtefkpedhbijhkaaGreatDoor
open Go Go.V Go.Proofs Go.ChangeShapes Go.WideShapes Go.RowKit
section
variable {H:Type} {enc:TypeId×Value→H} {W:World} {held:Bool} {sp:Nat→Bool}
theorem zpj {l:List (DataW H)} {i:Nat} (h:i<l.length):zar l[i]≤bulkVs l:=by
 induction l generalizing i with
 |nil=>cases h
 |cons d l ih=>
  cases i with
  |zero=>simp only[List.getElem_cons_zero,bulkVs];omega
  |succ i=>
   have:=ih (i:=i) (by simpa using h)
   simp only[List.getElem_cons_succ,bulkVs];omega
theorem zng {n:Nat} {cs:List Value} {x:DataW H×List MemPlace} (h:DataW.trod enc Tryz.prog W 0 sp held n 24 cs=some x):
  ∃ (a:Option Addr) (cap:Nat) (xs:List Int),cs=[.slice a xs.length cap]∧Row (fun b=>W.heap[b]?) a (xs.map (Value.int .i64))∧xs.length≤cap∧xs.length+1≤zar x.1:=by
 obtain⟨d1,hd1,hf1⟩:=tok.und (t:=24) (k:= .slice 3) rfl (by simp)
 simp only[TK.fits] at hf1;subst hf1
 obtain⟨a,cap,ds,xs,h1,h2,h3,h4,h5,h6⟩:=zh7 hd1 (m:=1) Kk Ko (fun n:Int=>[Value.int .i64 n]) (fun d _=>1≤zar d) (fun n cs y hl hy=>by
  obtain⟨z,e,_,_,hb⟩:=zlc tok (t:=3) (k:= .i64) rfl hy
  exact⟨z,e,by omega⟩) h
 refine⟨a,cap,xs,h1,by rw[List.map_eq_flatMap];exact h3,h2,?_⟩
 have:=zg9 ds fun d hd=>by
  obtain⟨i,hi,rfl⟩:=List.getElem_of_mem hd
  exact h5 i hi Ko
 omega
theorem zur {n:Nat} {cs:List Value} {x:DataW H×List MemPlace} (h:DataW.trod enc Tryz.prog W 0 sp held n 25 cs=some x):
  ∃ (a:Option Addr) (cap:Nat) (xs:List (List UInt8)),cs=[.slice a xs.length cap]∧Row (fun b=>W.heap[b]?) a (xs.map str)∧xs.length≤cap∧xs.length+1≤zar x.1∧ ∀s∈xs,s.length≤zar x.1:=by
 obtain⟨d1,hd1,hf1⟩:=tok.und (t:=25) (k:= .slice 9) rfl (by simp)
 simp only[TK.fits] at hf1;subst hf1
 obtain⟨a,cap,ds,xs,h1,h2,h3,h4,h5,h6⟩:=zh7 hd1 (m:=1) Kk Ko (fun s:List UInt8=>[str s]) (fun d s=>s.length+1≤zar d) (fun n cs y hl hy=>by
  obtain⟨s,e,hb⟩:=zv8 tok (t:=9) rfl hy
  exact⟨s,e,by omega⟩) h
 refine⟨a,cap,xs,h1,by rw[List.map_eq_flatMap];exact h3,h2,?_,fun s hs=>?_⟩
 ·have:=zg9 ds fun d hd=>by
   obtain⟨i,hi,rfl⟩:=List.getElem_of_mem hd
   have:=h5 i hi Ko
   omega
  omega
 ·obtain⟨i,hi,rfl⟩:=List.getElem_of_mem hs
  have h7:=h5 i Ko hi
  have h8:=zpj (l:=ds) (i:=i) Ko
  omega
theorem zus {n:Nat} {cs:List Value} {x:DataW H×List MemPlace} (h:DataW.trod enc Tryz.prog W 0 sp held n 23 cs=some x):
  ∃ (v:Value) (xss:List (List Int)),cs=[v]∧SlS (fun b=>W.heap[b]?) v xss∧xss.length+1≤zar x.1∧ ∀r∈xss,r.length≤zar x.1:=by
 obtain⟨d1,hd1,hf1⟩:=tok.und (t:=23) (k:= .slice 24) rfl (by simp)
 simp only[TK.fits] at hf1;subst hf1
 obtain⟨a,cap,rows,ds,spare,xs,h1,h2,h3,h4,h5,h6,h7⟩:=zm9 hd1 (m:=1) Kk Ko (fun cs d (r:List Int)=> ∃b c,cs=[.slice b r.length c]∧Row (fun b=>W.heap[b]?) b (r.map (Value.int .i64))∧r.length≤c∧r.length+1≤zar d) (fun n cs y hl hy=>by
  obtain⟨b,c,r,e,g1,g2,g3⟩:=zng hy
  exact⟨r,b,c,e,g1,g2,g3⟩) h
 have hfl:rows.flatten.length=rows.length:=by
  have: ∀l:List (List Value),(∀i (h:i<l.length),l[i].length=1)→l.flatten.length=l.length:=fun l=>by
   induction l with
   |nil=>intro _;rfl
   |cons r l ih=>
    intro hh
    have h0:=hh 0 (by simp)
    have:=ih fun i hi=>by have:=hh (i+1) (by simp;omega);simpa using this
    simp only[List.flatten_cons,List.length_append,List.length_cons,List.getElem_cons_zero] at h0⊢
    omega
  exact this rows fun i hi=>(h6 i hi Ko Ko).1
 have hfg: ∀i (h:i<rows.length),rows[i]=[rows.flatten[i]'Ko]:=by
  have: ∀l:List (List Value),(∀i (h:i<l.length),l[i].length=1)→ ∀i (h:i<l.length) (h2:i<l.flatten.length),l[i]=[l.flatten[i]]:=fun l=>by
   induction l with
   |nil=>intro _ i h;cases h
   |cons r l ih=>
    intro hh i hi h2
    have h0:=hh 0 (by simp)
    simp only[List.getElem_cons_zero] at h0
    match r,h0 with
    | [v],_=>
     cases i with
     |zero=>simp
     |succ i=>
      have:=ih (fun i hi=>by have:=hh (i+1) (by simp;omega);simpa using this) i (by simpa using hi) (by simpa using h2)
      simpa using this
  exact fun i h=>this rows (fun i hi=>(h6 i hi Ko Ko).1) i h _
 refine⟨_,xs,h1,⟨a,cap,rows.flatten,rfl,h3,by omega,h2,fun i hi hi2=>?_⟩,?_,fun r hr=>?_⟩
 ·obtain⟨_,b,c,e,g1,g2,_⟩:=h6 i Ko Ko hi
  rw[hfg i Ko] at e
  exact⟨b,c,by simpa using e,g1,g2⟩
 ·have:=zg9 ds fun d hd=>by
   obtain⟨i,hi,rfl⟩:=List.getElem_of_mem hd
   obtain⟨_,b,c,e,g1,g2,g3⟩:=h6 i Ko hi Ko
   omega
  omega
 ·obtain⟨i,hi,rfl⟩:=List.getElem_of_mem hr
  obtain⟨_,b,c,e,g1,g2,g3⟩:=h6 i Ko Ko hi
  have:=zpj (l:=ds) (i:=i) Ko
  omega
theorem zwg {n:Nat} {cs:List Value} (hl:cs.length=256) {x:DataW H×List MemPlace} (h:DataW.trod enc Tryz.prog W 0 sp held n 22 cs=some x):
  ∃xs:List Int,cs=xs.map (Value.int .u8)∧ ∀x∈xs,0≤x∧x≤255:=by
 have key: ∀k,k≤256→ ∃xs:List Int,cs.take k=xs.map (Value.int .u8)∧ ∀x∈xs,0≤x∧x≤255:=fun k=>by
  induction k with
  |zero=>intro _;exact⟨[],by simp,fun x hx=>by cases hx⟩
  |succ k ih=>
   intro hk
   obtain⟨xs,h1,h2⟩:=ih Ko
   obtain⟨q,y,hy,_⟩:=zv9 tok (t:=22) (e:=5) (m:=256) rfl h (i:=k) Ko
   rw[show Tryz.prog.cellsOf 5=1 by kernel_rfl] at hy
   obtain⟨z,e,w0,w1,_⟩:=zlc tok (t:=5) (k:= .u8) rfl hy
   have hk2:k<cs.length:=by omega
   rw[Nat.mul_one,List.drop_eq_getElem_cons hk2] at e
   simp only[List.take_succ_cons,List.take_zero,List.cons.injEq,and_true] at e
   refine⟨xs++[z],by rw[List.take_succ_eq_append_getElem hk2,h1,List.map_append,e];rfl,fun x hx=>?_⟩
   rcases List.mem_append.1 hx with hx|hx
   ·exact h2 x hx
   ·rw[List.mem_singleton.1 hx]
    exact⟨w0,w1⟩
 obtain⟨xs,h1,h2⟩:=key 256 (Nat.le_refl _)
 rw[List.take_of_length_le Ko] at h1
 exact⟨xs,h1,h2⟩
set_option maxRecDepth 8000 in
theorem zw7 {r:Reach} {b0:Nat} {v:Value} {dt:DataW H} {ps:List MemPlace}
  (hval:Value.okWide Tryz.prog W r b0 27 v) (h:DataW.Trod enc Tryz.prog W 0 sp held 27 v dt ps): ∃d:DfaT,IsD (fun b=>W.heap[b]?) d v∧(zar dt≤1048576→zt d):=by
 obtain⟨d1,hd1,f,rfl,hf1⟩:=tok.und (t:=27) (k:= .struct [(0,22),(256,3),(257,23),(258,24),(259,25)]) rfl (by simp)
 obtain⟨C,rfl,hC⟩:=okWide_struct hd1 hval
 rw[show Tryz.prog.cellsOf 27=260 by kernel_rfl] at hC
 obtain⟨fuel,hf⟩:=h
 have hC2:C.toList.length=260:=by simpa using hC
 have hf':DataW.trod enc Tryz.prog W 0 sp held fuel 27 C.toList=some (dt,ps):=hf
 obtain⟨m0,y0,g0,w0⟩:=zfB tok (t:=27) (fs:=[(0,22),(256,3),(257,23),(258,24),(259,25)]) rfl (i:=0) rfl hf'
 obtain⟨m1,y1,g1,w1⟩:=zfB tok (t:=27) (fs:=[(0,22),(256,3),(257,23),(258,24),(259,25)]) rfl (i:=1) rfl hf'
 obtain⟨m2,y2,g2,w2⟩:=zfB tok (t:=27) (fs:=[(0,22),(256,3),(257,23),(258,24),(259,25)]) rfl (i:=2) rfl hf'
 obtain⟨m3,y3,g3,w3⟩:=zfB tok (t:=27) (fs:=[(0,22),(256,3),(257,23),(258,24),(259,25)]) rfl (i:=3) rfl hf'
 obtain⟨m4,y4,g4,w4⟩:=zfB tok (t:=27) (fs:=[(0,22),(256,3),(257,23),(258,24),(259,25)]) rfl (i:=4) rfl hf'
 rw[show Tryz.prog.cellsOf 22=256 by kernel_rfl] at g0
 rw[show Tryz.prog.cellsOf 3=1 by kernel_rfl] at g1
 rw[show Tryz.prog.cellsOf 23=1 by kernel_rfl] at g2
 rw[show Tryz.prog.cellsOf 24=1 by kernel_rfl] at g3
 rw[show Tryz.prog.cellsOf 25=1 by kernel_rfl] at g4
 obtain⟨of,e0,hb0⟩:=zwg (by rw[List.length_take,List.length_drop,hC2];omega) g0
 obtain⟨w,e1,_⟩:=zlc tok (t:=3) (k:= .i64) rfl g1
 obtain⟨vn,next,e2,hn,hn1,hn2⟩:=zus g2
 obtain⟨al,cl,label,e3,hl,hl1,hl2⟩:=zng g3
 obtain⟨ay,cy,names,e4,hy,hy1,hy2,hy3⟩:=zur g4
 rw[List.drop_zero] at e0
 have hofl:of.length=256:=by
  have:=congrArg List.length e0
  rw[List.length_take,hC2,List.length_map] at this
  omega
 have split1: ∀ {k:Nat} {z:Value},k<260→(C.toList.drop k).take 1=[z]→C.toList.drop k=z::C.toList.drop (k+1):=fun{k z} hk e=>by
  rw[List.drop_eq_getElem_cons Ko] at e⊢
  simp only[List.take_succ_cons,List.take_zero,List.cons.injEq,and_true] at e
  rw[e]
 have hCe:C.toList=zc ⟨of,w,next,label,names⟩ vn (.slice al label.length cl) (.slice ay names.length cy):=by
  rw[←List.take_append_drop 256 C.toList,e0,split1 Ko e1,split1 Ko e2,split1 Ko e3,split1 Ko e4,List.drop_of_length_le Ko]
  rfl
 refine⟨⟨of,w,next,label,names⟩,⟨hofl,hb0,vn,_,_,?_,hn,⟨al,cl,rfl,hl,hl1⟩,⟨ay,cy,rfl,hy,hy1⟩⟩,fun hbk=>?_⟩
 ·rw[←hCe]
 ·simp only[] at w0 w1 w2 w3 w4
  refine⟨by show next.length≤_;omega,fun r hr=>by have:=hn2 r hr;omega,by show label.length≤_;omega,by show names.length≤_;omega,fun s hs=>by have:=hy3 s hs;omega⟩
end
end Go.Proofs.YtefkpedhbijhkaaGreatDoor
namespace Go.Proofs.YtefkpedhbijhkaaGreatDoor
open Go Go.V Go.Proofs
def zqN (d:DfaT) (s:Nat):Prop:= ∀ (h:s<d.next.length) (h2:s<d.label.length),(d.next[s].length:Int)=d.width∧0≤d.label[s]∧d.label[s]≤d.names.length∧ ∀t∈d.next[s],0≤t∧t<d.label.length
def zie (d:DfaT):Prop:= ∀s,zqN d s
theorem zw8 {d:DfaT} (hsm:zt d) (hnl:d.next.length=d.label.length) {G:za} {H:zb} {R:Value→za→zb→Prop} {v:Value} (hv:IsD G d v) (hR:R (.bool (zaE (zie d))) G H):FnT Tryz.prog 69 [v] G H R:=by
  obtain⟨hof,hofb,vn,vl,vs,rfl,⟨an,cn,rs,rfl,hrn,hrl,hcn,hrs⟩,⟨al,cl,rfl,hrl',hcl⟩,⟨ay,cs,rfl,hrs',hcs⟩⟩:=hv
  obtain⟨hm1,hm2,hm3,hm4,hm5⟩:=hsm
  obtain⟨C,hC⟩: ∃C,C=zc d (.slice an d.next.length cn) (.slice al d.label.length cl) (.slice ay d.names.length cs):=⟨_,rfl⟩
  have hCl:C.length=260:=by rw[hC];exact zab hof _ _ _
  have hCw:C[256]? =some (.int .i64 d.width):=by rw[hC];exact zne hof _ _ _
  have hCn:C[257]? =some (.slice an d.next.length cn):=by rw[hC];exact zdG hof _ _ _
  have hCx:C[258]? =some (.slice al d.label.length cl):=by rw[hC];exact zcX hof _ _ _
  have hCs:C[259]? =some (.slice ay d.names.length cs):=by rw[hC];exact znf hof _ _ _
  rw[←hC]
  refine FnT.body tok [0,1,2,3,4,5,7,12,13,14,15,42,43,44,45,46,55] Tryz.func69 rfl Kk Kk (by show _≤58;simp) fun hsep=>?_
  rw[Tryz.results69]
  have hE:=hsep
  try simp only[zzs] at hE
  repeat(obtain⟨hx',hE⟩:=hE)
  repeat' first
    |with_reducible first|refine Nx.go ?_ |refine Bk.go (fun _=>?_) fun _=>?_ |refine Nb fun nb hnb hnb1 hnb2=>?_
    |simp -dsimp -implicitDefEqProofs (disch:=first|exact Kd|fail) only[go_sem,↓reduceIte,seval, -List.reduceReplicate,List.toList_toArray,hCl,hCw,hCn,hCx,hCs]
  refine Tri.loopU tok [0,1,2,3,4,5,7,12,13,14,15,42,43,44,45,46,55] Kk [1,2,3,12,13,14] (fun q G' fr H'=> ∃s:Nat,s+q=d.next.length∧(∀j,j<s→zqN d j)∧G'=G∧H'=(nb, .cells C [] 27)::H∧fr=[(1, .pointer (some ⟨nb,0,none⟩)),(2, .bool false),(3, .int .i64 d.label.length),(12, .slice an d.next.length cn),(13, .int .i64 d.next.length),(14, .int .i64 s)]) (d.next.length) ?_ ?_
  · exact Upd.now ⟨0,by omega,fun j h=>by omega,rfl,rfl,rfl⟩
  · rintro q G1 fr H' hle hs ⟨s,hi,hno,rfl,rfl,rfl⟩
    have hE:=hs
    try simp only[zzs] at hE
    repeat(obtain⟨hx',hE⟩:=hE)
    by_cases hsl:s<d.next.length
    · have hsv:s<rs.length:=by omega
      have hsL:s<d.label.length:=by omega
      obtain⟨b,c,e1,e2,e3⟩:=hrs s hsl hsv
      have hrm:=hm2 _ (List.getElem_mem hsl)
      have had:Adr an:=hrn.adr Ko
      have had2:Adr al:=hrl'.adr (by rw[List.length_map];omega)
      repeat' first
        |with_reducible first|refine Nx.go ?_ |refine Bk.go (fun _=>?_) fun _=>?_ |refine Nb fun nb hnb hnb1 hnb2=>?_
        |with_reducible refine Tri.drawM tok mixed [0,1,2,3,4,5,7,12,13,14,15,42,43,44,45,46,55] 5 [3,7,10,15,18,20] (.op 0 .plain (.op 1 .plain (.op 2 .plain (.op 3 .held (.op 4 .plain (.op 5 .plain (.op 6 .plain (.op 7 .held (.op 8 .plain (.op 9 .plain (.op 10 .held (.op 11 .plain (.op 12 .plain (.op 13 .plain (.op 14 .plain (.op 15 .held (.op 16 .plain (.op 17 .plain (.op 18 .held (.op 19 .plain (.op 20 .held (.op 21 .plain (.op 22 .plain (.op 23 .plain .nil)))))))))))))))))))))))) Kk _ (List.Sublist.refl _) ?_
        |simp -dsimp -implicitDefEqProofs (disch:=first|exact Kd|fail) only[go_sem,↓reduceIte,seval, -List.reduceReplicate,List.toList_toArray,hCl,hCw,hCn,hCx,hCs,Row.obj hrn,e1,Row.obj hrl',List.getElem_map]
      all_goals try(
        rw[zB (p:=zie d) fun h=>by
          obtain⟨r1,r2,r3,r4⟩:=h s hsl hsL
          omega] at hR
        exact Upd.finL Ks hR rfl)
      obtain⟨row,hrow⟩: ∃row,row=d.next[s]:=⟨_,rfl⟩
      have hrw:(row.length:Int)=d.width∧0≤d.label[s]∧d.label[s]≤d.names.length:=by rw[hrow];omega
      rw[←hrow] at e2 e3 hrm⊢
      refine Tri.loopU tok [0,1,2,3,4,5,7,12,13,14,15,42,43,44,45,46,55] Kk [1,2,3,12,13,14,43,44,45] (fun q2 G' fr H'=> ∃k:Nat,k+q2=row.length∧(∀j (h:j<row.length),j<k→0≤row[j]∧row[j] <d.label.length)∧G'=G1∧H'=(nb, .cells C [] 27)::H∧fr=[(1, .pointer (some ⟨nb,0,none⟩)),(2, .bool false),(3, .int .i64 d.label.length),(12, .slice an d.next.length cn),(13, .int .i64 d.next.length),(14, .int .i64 s),(43, .slice b row.length c),(44, .int .i64 row.length),(45, .int .i64 k)]) (row.length) ?_ ?_
      · exact Upd.now ⟨0,by omega,fun j _ h=>by omega,rfl,rfl,rfl⟩
      · rintro q2 G2 fr H' hle2 hs2 ⟨k,hk,hno2,rfl,rfl,rfl⟩
        by_cases hkl:k<row.length
        · have had3:Adr b:=e2.adr (by rw[List.length_map];omega)
          repeat' first
            |with_reducible first|refine Nx.go ?_ |refine Bk.go (fun _=>?_) fun _=>?_ |refine Nb fun nb hnb hnb1 hnb2=>?_
            |simp -dsimp -implicitDefEqProofs (disch:=first|exact Kd|fail) only[go_sem,↓reduceIte,seval, -List.reduceReplicate,Row.obj e2,List.getElem_map]
          all_goals first
            | (rw [zB (p := zie d) fun h => by
                obtain⟨r1,r2,r3,r4⟩:=h s hsl hsL
                have:=r4 row[k] (by rw[←hrow];exact List.getElem_mem hkl)
                omega] at hR
               exact Upd.finL Ks hR rfl)
            | exact Upd.now ⟨q2 - 1, by omega, k + 1, by omega, fun j h hj => by
                by_cases e:j=k
                · subst e;omega
                · exact hno2 j h Ko,rfl,rfl,rfl⟩
        · obtain rfl:k=row.length:=by omega
          repeat' first
            |with_reducible first|refine Nx.go ?_ |refine Bk.go (fun _=>?_) fun _=>?_ |refine Nb fun nb hnb hnb1 hnb2=>?_
            |simp -dsimp -implicitDefEqProofs (disch:=first|exact Kd|fail) only[go_sem,↓reduceIte,seval, -List.reduceReplicate]
          exact Upd.now ⟨q - 1,by omega,s+1,by omega,fun j hj=>by
            by_cases e:j=s
            · subst e
              exact fun h1 h2=>⟨by rw[←hrow];omega,by omega,by omega,fun t ht=>by
                rw[←hrow] at ht
                obtain⟨j,hj,rfl⟩:=List.getElem_of_mem ht
                exact hno2 j hj hj⟩
            · exact hno j Ko,rfl,rfl,rfl⟩
    · obtain rfl:s=d.next.length:=by omega
      rw[zG (p:=zie d) fun s=>by
        rcases Nat.lt_or_ge s d.next.length with h|h
        · exact hno s h
        · exact fun h2=>by omega] at hR
      repeat' first
        |with_reducible first|refine Nx.go ?_ |refine Bk.go (fun _=>?_) fun _=>?_ |refine Nb fun nb hnb hnb1 hnb2=>?_
        |simp -dsimp -implicitDefEqProofs (disch:=first|exact Kd|fail) only[go_sem,↓reduceIte,seval, -List.reduceReplicate]
      all_goals refine Upd.finL ?_ hR ?_
      any_goals first|exact Ks|skip
      rfl
end Go.Proofs.YtefkpedhbijhkaaGreatDoor
namespace Go.Proofs.YtefkpedhbijhkaaGreatDoor
open Go Go.V Go.Proofs
def zd (d:DfaT):Prop:=1≤d.label.length∧d.label.length≤65536∧d.next.length=d.label.length∧zf d.of=d.of∧((zl d.of).length:Int)=d.width∧zaZ d.names∧zie d
structure OpenD (G:za) (d:DfaT) (C:List Value) (an al ay:Option Addr) (cn cl cs:Nat) (rs:List Value):Prop where
 len:C.length=260
 w:C[256]? =some (.int .i64 d.width)
 n:C[257]? =some (.slice an d.next.length cn)
 l:C[258]? =some (.slice al d.label.length cl)
 s:C[259]? =some (.slice ay d.names.length cs)
 of:C.take 256=u8L d.of
 all:C.take 260=C
 is:IsD G d (.agg C.toArray)
 ofl:d.of.length=256
 ofb: ∀x∈d.of,0≤x∧x≤255
 rn:Row G an rs
 rnl:rs.length=d.next.length
 rnc:d.next.length≤cn
 rs: ∀i (h:i<d.next.length) (h2:i<rs.length),∃b c,rs[i]= .slice b d.next[i].length c∧Row G b (d.next[i].map (Value.int .i64))∧d.next[i].length≤c
 rl:Row G al (d.label.map (Value.int .i64))
 rlc:d.label.length≤cl
 ry:Row G ay (d.names.map str)
 ryc:d.names.length≤cs
theorem IsD.opened {G:za} {d:DfaT} {v:Value} (h:IsD G d v): ∃C an al ay cn cl cs rs,v= .agg (List.toArray C)∧OpenD G d C an al ay cn cl cs rs:=by
 have h0:=h
 obtain⟨hof,hofb,vn,vl,vs,rfl,⟨an,cn,rs,rfl,hrn,hrl,hcn,hrs⟩,⟨al,cl,rfl,hrl',hcl⟩,⟨ay,cs,rfl,hrs',hcs⟩⟩:=h
 exact⟨_,an,al,ay,cn,cl,cs,rs,rfl,zab hof _ _ _,zne hof _ _ _,zdG hof _ _ _,zcX hof _ _ _,znf hof _ _ _,zsj hof _ _ _,zcz hof _ _ _,h0,hof,hofb,hrn,hrl,hcn,hrs,hrl',hcl,hrs',hcs⟩
theorem OpenD.mono {G G':za} (hle:PLe G G') {d:DfaT} {C:List Value} {an al ay:Option Addr} {cn cl cs:Nat} {rs:List Value} (h:OpenD G d C an al ay cn cl cs rs):OpenD G' d C an al ay cn cl cs rs:=
 ⟨h.len,h.w,h.n,h.l,h.s,h.of,h.all,h.is.mono hle,h.ofl,h.ofb,h.rn.mono hle,h.rnl,h.rnc,fun i h1 h2=>by
  obtain⟨b,c,e1,e2,e3⟩:=h.rs i h1 h2
  exact⟨b,c,e1,e2.mono hle,e3⟩,h.rl.mono hle,h.rlc,h.ry.mono hle,h.ryc⟩
theorem OpenD.label {G:za} {d:DfaT} {C:List Value} {an al ay:Option Addr} {cn cl cs:Nat} {rs:List Value} (h:OpenD G d C an al ay cn cl cs rs):Sl G (Value.int .i64) (.slice al d.label.length cl) d.label:=⟨al,cl,rfl,h.rl,h.rlc⟩
theorem OpenD.names {G:za} {d:DfaT} {C:List Value} {an al ay:Option Addr} {cn cl cs:Nat} {rs:List Value} (h:OpenD G d C an al ay cn cl cs rs):Sl G str (.slice ay d.names.length cs) d.names:=⟨ay,cs,rfl,h.ry,h.ryc⟩
theorem OpenD.get {G:za} {d:DfaT} {C:List Value} {an al ay:Option Addr} {cn cl cs:Nat} {rs:List Value} (h:OpenD G d C an al ay cn cl cs rs) (i:Nat):C[i]? =C[i]? :=rfl
theorem zav {d:DfaT} (hsm:zt d) {G:za} {H:zb} {R:Value→za→zb→Prop} {v:Value} (hv:IsD G d v) (hR:R (.bool (zaE (zd d))) G H):FnT Tryz.prog 41 [v] G H R:=by
 obtain⟨C,an,al,ay,cn,cl,cs,rs,rfl,O⟩:=hv.opened
 obtain⟨hm1,hm2,hm3,hm4,hm5⟩:=id hsm
 have hCl:=O.len
 have hCw:=O.w
 have hCn:=O.n
 have hCx:=O.l
 have hCs:=O.s
 have hCo:=O.of
 have hCa:=O.all
 by_cases h1:1≤d.label.length∧d.label.length≤65536∧d.next.length=d.label.length
 ·obtain⟨h1a,h1b,h1c⟩:=h1
  refine FnT.body tok [0,1,2,3] Tryz.func41 rfl Kk Kk (by show _≤36;simp) fun hsep=>?_
  rw[Tryz.results41]
  have hE:=hsep
  try simp only[zzs] at hE
  repeat(obtain⟨hx',hE⟩:=hE)
  repeat' first
   |with_reducible first|refine Nx.go ?_ |refine Bk.go (fun _=>?_) fun _=>?_ |refine Nb fun nb hnb hnb1 hnb2=>?_
   |simp -dsimp -implicitDefEqProofs (disch:=first|exact Kd|fail) only[go_sem,↓reduceIte,seval, -List.reduceReplicate,List.toList_toArray,hCl,hCw,hCn,hCx,hCs,hCo,hCa]
   |with_reducible refine zuq O.ofl d.width ?_
   |with_reducible refine zwf d.names hm4 hm5 O.names ?_
   |with_reducible refine zw8 hsm h1c O.is ?_
  ·rename_i hp hq
   refine Upd.finL Ks hR ?_
   rw[Bool.and_eq_true,decide_eq_true_eq,decide_eq_true_eq] at hp
   simp only[Value.bool.injEq]
   rw[Bool.eq_iff_iff,zbY,zbY]
   exact⟨fun h=>⟨h1a,h1b,h1c,hp.1,hp.2,zbY.1 hq,h⟩,fun h=>h.2.2.2.2.2.2⟩
  ·rename_i hp hq
   rw[zB fun h=>by rw[zG h.2.2.2.2.2.1] at hq;cases hq] at hR
   all_goals refine Upd.finL ?_ hR ?_
   any_goals first|exact Ks|skip
   rfl
  ·rename_i hp
   rw[zB fun h=>by rw[decide_eq_true h.2.2.2.1,decide_eq_true h.2.2.2.2.1] at hp;cases hp] at hR
   all_goals refine Upd.finL ?_ hR ?_
   any_goals first|exact Ks|skip
   rfl
 ·rw[zB fun h=>h1 ⟨h.1,h.2.1,h.2.2.1⟩] at hR
  refine FnT.body tok [0,1,2,3] Tryz.func41 rfl Kk Kk (by show _≤36;simp) fun hsep=>?_
  rw[Tryz.results41]
  have hE:=hsep
  try simp only[zzs] at hE
  repeat(obtain⟨hx',hE⟩:=hE)
  repeat' first
   |with_reducible first|refine Nx.go ?_ |refine Bk.go (fun _=>?_) fun _=>?_ |refine Nb fun nb hnb hnb1 hnb2=>?_
   |simp -dsimp -implicitDefEqProofs (disch:=first|exact Kd|fail) only[go_sem,↓reduceIte,seval, -List.reduceReplicate,List.toList_toArray,hCl,hCw,hCn,hCx,hCs,hCo,hCa]
  all_goals try(exfalso;omega)
  all_goals refine Upd.finL ?_ hR ?_
  any_goals first|exact Ks|skip
  all_goals rfl
end Go.Proofs.YtefkpedhbijhkaaGreatDoor
namespace Go.Proofs.YtefkpedhbijhkaaGreatDoor
open Go Go.V Go.Proofs
def zw (m:List Int):List Int:=(zl m).map (zp m)
theorem zcK {m:List Int} {i k:Nat} (h3:i<k) (hk:k≤m.length):m[i]'Ko∈m.take k:=by
 rw[List.mem_iff_getElem]
 exact⟨i,by rw[List.length_take];omega,by rw[List.getElem_take]⟩
theorem zhS {m:List Int} {i:Nat} (h:i<m.length):(zf m)[i]'(by rw[zv];exact h)=zp (zl (m.take (i+1))) m[i]:=by
 have key: ∀k,i<k→k≤m.length→zp (zl (m.take k)) m[i]=zp (zl (m.take (i+1))) m[i]:=fun k=>by
  induction k with
  |zero=>intro h1;omega
  |succ k ih=>
   intro h1 h2
   rcases Nat.lt_or_ge i k with h3|h3
   ·rw[←ih h3 Ko,List.take_succ_eq_append_getElem Ko,zaM]
    split
    ·rfl
    ·exact zf6 ((zI _).2 (zcK h3 Ko)) _
   ·obtain rfl:k=i:=by omega
    rfl
 rw[zbM h,←key m.length h (Nat.le_refl _),List.take_length]
theorem zwh {m:List Int} {i:Nat} (h:i<m.length):(zf m)[i]'(by rw[zv];exact h)=((zl (m.take i)).length:Int)↔m[i]∉m.take i:=by
 rw[zhS h,List.take_succ_eq_append_getElem h]
 constructor
 ·intro e hm
  obtain⟨n,hn⟩:=zS ((zI _).2 hm)
  rw[(zcW hn).1,zx hn] at e
  have:=(zR hn).1
  omega
 ·intro hm
  have hp:=zbt fun h=>hm ((zI _).1 h)
  rw[(zcy hp).1,zx (zcV (zcv hp))]
theorem zpk {m:List Int} (hlen:m.length≤2000000) {G:za} {H:zb} {R:Value→za→zb→Prop} {v:Value} (hv:Sl G (Value.int .i64) v (zf m))
  (hR: ∀G' v',PLe G G'→Sep G' (zk H)→Sl G' (Value.int .i64) v' (zw m)→R v' G' H):FnT Tryz.prog 94 [v] G H R:=by
 obtain⟨a,cap,rfl,hrow,hcap⟩:=hv
 have hnl:=zv m
 rw[hnl] at hcap⊢
 refine FnT.sep ?_
 refine FnT.body tok [0,2,3,4,5,6,7,8,9,16] Tryz.func94 rfl Kk Kk (by show _≤23;simp) fun hsep=>?_
 rw[Tryz.results94]
 have hE:=hsep
 try simp only[zzs] at hE
 repeat(obtain⟨hx',hE⟩:=hE)
 repeat' first
  |with_reducible first|refine Nx.go ?_ |refine Bk.go (fun _=>?_) fun _=>?_ |refine Nb fun nb hnb hnb1 hnb2=>?_ |refine Nr fun nb nsp ncap hnb hncap hnb1 hnb2=>?_
  |simp -dsimp -implicitDefEqProofs (disch:=first|exact Kd|fail) only[go_sem,↓reduceIte,seval]
 refine Tri.loopU tok [0,2,3,4,5,6,7,8,9,16] Kk [0,2,3,6,7,8] (fun q G' fr H'=> ∃ (i:Nat) (v:Value) (kb:zb),i+q=m.length∧G'=G∧zH [] 3 1 v (zl (m.take i)).length (((zl (m.take i)).map (zp m)).map (Value.int .i64)) kb∧H'=kb++H∧fr=[(0, .slice a m.length cap),(2, .slice none 0 0),(3,v),(6, .slice a m.length cap),(7, .int .i64 m.length),(8, .int .i64 i)]) (m.length) ?_ ?_
 ·exact Upd.now ⟨0,_,[],by omega,rfl, .inl ⟨none,rfl,rfl,rfl,rfl⟩,rfl,rfl⟩
 ·rintro q G1 fr H' hle hs ⟨i,v,kb,hi,rfl,hv,rfl,rfl⟩
  have htl:=zam (m.take i)
  rw[List.length_take] at htl
  by_cases hil:i<m.length
  ·have had:Adr a:=hrow.adr (by rw[List.length_map,hnl];omega)
   have hin:i< (zf m).length:=by omega
   have htk:=List.take_succ_eq_append_getElem hil
   have hni:=zwh hil
   by_cases hnew:m[i]∈m.take i
   ·have hno:(zf m)[i]≠((zl (m.take i)).length:Int):=fun e=>(hni.1 e) hnew
    have ht:zl (m.take (i+1))=zl (m.take i):=by rw[htk,zaM,if_pos ((zI _).2 hnew)]
    rcases hv with ⟨a0,rfl,hn,hx,rfl⟩| ⟨b2,c2,sp,rfl,rfl,hx,hc⟩
    ·have:m[i]∈zl (m.take i):=(zI _).2 hnew
     rw[List.eq_nil_of_length_eq_zero hn] at this;cases this
    ·have hE:=hs
     try simp only[zzs] at hE
     repeat(obtain⟨hx',hE⟩:=hE)
     repeat' first
      |with_reducible first|refine Nx.go ?_ |refine Bk.go (fun _=>?_) fun _=>?_ |refine Nb fun nb hnb hnb1 hnb2=>?_ |refine Nr fun nb nsp ncap hnb hncap hnb1 hnb2=>?_
      |simp -dsimp -implicitDefEqProofs (disch:=first|exact Kd|fail) only[go_sem,↓reduceIte,seval,Row.obj hrow,List.getElem_map,List.length_map,hnl]
     exact Upd.now ⟨q - 1,by omega,i+1,_,[(b2, .cells (((zl (m.take (i+1))).map (zp m)).map (Value.int .i64)) sp 3)],by omega,rfl, .inr ⟨b2,c2,sp,by rw[ht],rfl,by rw[ht];exact hx,by rw[ht];exact hc⟩,by rw[ht];rfl,rfl⟩
   ·have hyes:=hni.2 hnew
    have hp:=zbt fun h=>hnew ((zI _).1 h)
    have ht:zl (m.take (i+1))=zl (m.take i)++[m[i]]:=by rw[htk];exact(zcy hp).1
    obtain⟨p,hpp,_,_,hpn⟩:=zbD hil
    obtain rfl:p=i:=hpn.2 hnew
    have hce:((zl (m.take (p+1))).map (zp m)).map (Value.int .i64)=((zl (m.take p)).map (zp m)).map (Value.int .i64)++[Value.int .i64 p]:=by rw[ht,List.map_append,List.map_append,List.map_singleton,zx hpp];rfl
    have hcl:(zl (m.take (p+1))).length=(zl (m.take p)).length+1:=by rw[ht,List.length_append];rfl
    rcases hv with ⟨a0,rfl,hn,hx,rfl⟩| ⟨b2,c2,sp,rfl,rfl,hx,hc⟩
    ·have hE:=hs
     try simp only[zzs] at hE
     repeat(obtain⟨hx',hE⟩:=hE)
     repeat' first
      |with_reducible first|refine Nx.go ?_ |refine Bk.go (fun _=>?_) fun _=>?_ |refine Nb fun nb hnb hnb1 hnb2=>?_ |refine Nr fun nb nsp ncap hnb hncap hnb1 hnb2=>?_
      |simp -dsimp -implicitDefEqProofs (disch:=first|exact Kd|fail) only[go_sem,↓reduceIte,seval,Row.obj hrow,List.getElem_map,List.length_map,hnl,hyes,hn]
     rw[hx,List.nil_append] at hce
     rw[←hce]
     exact Upd.go (H':=(nb, .cells (((zl (m.take (p+1))).map (zp m)).map (Value.int .i64)) nsp 3)::H) Ks (Upd.now ⟨q - 1,by omega,p+1, .slice (some ⟨nb,0,none⟩) (zl (m.take (p+1))).length ncap,[(nb, .cells (((zl (m.take (p+1))).map (zp m)).map (Value.int .i64)) nsp 3)],by omega,rfl, .inr ⟨nb,ncap,nsp,rfl,rfl,by rw[List.length_map,List.length_map];omega,by rw[List.length_map,List.length_map];simp at hncap⊢;omega⟩,rfl,by rw[hcl,hn];rfl⟩)
    ·have hE:=hs
     try simp only[zzs] at hE
     repeat(obtain⟨hx',hE⟩:=hE)
     repeat' first
      |with_reducible first|refine Nx.go ?_ |refine Bk.go (fun _=>?_) fun _=>?_ |refine Nb fun nb hnb hnb1 hnb2=>?_ |refine Nr fun nb nsp ncap hnb hncap hnb1 hnb2=>?_
      |simp -dsimp -implicitDefEqProofs (disch:=first|exact Kd|fail) only[go_sem,↓reduceIte,seval,Row.obj hrow,List.getElem_map,List.length_map,hnl,hyes]
     rw[←hce]
     exact Upd.go (H':=(nb, .cells (((zl (m.take (p+1))).map (zp m)).map (Value.int .i64)) nsp 3)::H) Ks (Upd.now ⟨q - 1,by omega,p+1, .slice (some ⟨nb,0,none⟩) (zl (m.take (p+1))).length ncap,[(nb, .cells (((zl (m.take (p+1))).map (zp m)).map (Value.int .i64)) nsp 3)],by omega,rfl, .inr ⟨nb,ncap,nsp,rfl,rfl,by rw[List.length_map,List.length_map];omega,by rw[List.length_map,List.length_map];simp at hncap⊢;omega⟩,rfl,by rw[hcl];rfl⟩)
  ·obtain rfl:i=m.length:=by omega
   rw[List.take_length] at hv
   repeat' first
    |with_reducible first|refine Nx.go ?_ |refine Bk.go (fun _=>?_) fun _=>?_ |refine Nb fun nb hnb hnb1 hnb2=>?_ |refine Nr fun nb nsp ncap hnb hncap hnb1 hnb2=>?_
    |simp -dsimp -implicitDefEqProofs (disch:=first|exact Kd|fail) only[go_sem,↓reduceIte,seval]
   unfold zz
   refine Upd.go (H':=kb++H) Ks ?_
   rcases hv with ⟨a0,rfl,hn,hx,rfl⟩| ⟨b2,c2,sp,rfl,rfl,hx,hc⟩
   ·refine Upd.now ?_
    have hh:zw m=[]:=by unfold zw;rw[List.eq_nil_of_length_eq_zero hn];rfl
    exact fun hle hs=>hR _ _ (PLe.refl _) hs ⟨a0,0,by rw[hh];rfl,by rw[hh];exact Row.nil _ _,by rw[hh];exact Nat.le_refl _⟩
   ·have hE:=hs
    try simp only[zzs] at hE
    repeat(obtain⟨hx',hE⟩:=hE)
    refine Upd.shareRow Ka fun G2 hle2 hs2 hr2=>?_
    exact fun hle hs=>hR _ _ hle2 hs ⟨some ⟨b2,0,none⟩,c2,by unfold zw;rw[List.length_map],hr2,by unfold zw;rw[List.length_map] at hx hc⊢;rw[List.length_map] at hx hc;omega⟩
end Go.Proofs.YtefkpedhbijhkaaGreatDoor
namespace Go.Proofs.YtefkpedhbijhkaaGreatDoor
open Go Go.V Go.Proofs
def atL (l:List Int) (x:Int):Int:=l.getD x.toNat 0
theorem zX {l:List Int} {x:Int} (h:x.toNat<l.length):atL l x=l[x.toNat]:=by unfold atL;rw[List.getD_eq_getElem?_getD,List.getElem?_eq_getElem h];rfl
theorem zwi {L:List Int} {a:Option Addr} {cap b1:Nat} {x y:Int} (hx:0≤x∧x<L.length) (hy:0≤y∧y<L.length) {G:za} {H:zb} {R:Value→za→zb→Prop} (hrow:Row G a (L.map (Value.int .i64)))
  (hg1:G b1=none) (hf:zq H b1=some (.cells [.slice a L.length cap] [] 24)) (hR:R (.bool (decide (atL L x=atL L y))) G H):FnT Tryz.prog 139 [.int .i64 x, .int .i64 y, .pointer (some ⟨b1,0,none⟩)] G H R:=by
 obtain⟨i,rfl⟩:=Int.eq_ofNat_of_zero_le hx.1
 obtain⟨j,rfl⟩:=Int.eq_ofNat_of_zero_le hy.1
 have hi:i<L.length:=by omega
 have hj:j<L.length:=by omega
 rw[zX (by simpa using hi),zX (by simpa using hj)] at hR
 simp only[Int.toNat_natCast] at hR
 have had:Adr a:=hrow.adr (by rw[List.length_map];omega)
 refine FnT.body tok [0,1,2,5] Tryz.func139 rfl Kk Kk (by show _≤15;simp) fun hsep=>?_
 rw[Tryz.results139]
 have hE:=hsep
 try simp only[zzs] at hE
 repeat(obtain⟨hx',hE⟩:=hE)
 repeat' first
  |with_reducible first|refine Nx.go ?_ |refine Bk.go (fun _=>?_) fun _=>?_
  |with_reducible refine Tri.drawM tok mixed [0,1,2,5] 1 [0,3,4,7] (.op 0 .held (.op 1 .plain (.op 2 .plain (.op 3 .held (.op 4 .held (.op 5 .plain (.op 6 .plain (.op 7 .held (.op 8 .plain (.op 9 .plain .nil)))))))))) Kk _ (List.Sublist.refl _) ?_
  |simp -dsimp -implicitDefEqProofs (disch:=first|exact Kd|fail) only[go_sem,↓reduceIte,seval,hf,Row.obj hrow,List.getElem_map]
 all_goals refine Upd.finL ?_ hR ?_
 any_goals first|exact Ks|skip
 rfl
def zeb (L xs ys:List Int):Prop:= ∃h:xs.length=ys.length,∀k (hk:k<xs.length),atL L xs[k]=atL L (ys[k]'(h▸hk))
theorem zx0 {L xs ys:List Int} (hlen:xs.length≤2000000) (hxs: ∀x∈xs,0≤x∧x<L.length) (hys: ∀y∈ys,0≤y∧y<L.length) {a ax ay:Option Addr} {cap cx cy b1:Nat} {G:za} {H:zb} {R:Value→za→zb→Prop} (hrow:Row G a (L.map (Value.int .i64)))
  (hrx:Row G ax (xs.map (Value.int .i64))) (hry:Row G ay (ys.map (Value.int .i64))) (hg1:G b1=none) (hf:zq H b1=some (.cells [.slice a L.length cap] [] 24)) (hR:R (.bool (zaE (zeb L xs ys))) G H):FnT Tryz.prog 140 [.slice ax xs.length cx, .slice ay ys.length cy, .func (.func 139) #[] #[.pointer (some ⟨b1,0,none⟩)]] G H R:=by
 by_cases hxy:xs.length=ys.length
 ·refine FnT.body tok [0,1,2,6,7,8,9,14,15,16,17,18,30] Tryz.func140 rfl Kk Kk (by show _≤32;simp) fun hsep=>?_
  rw[Tryz.results140]
  have hE:=hsep
  try simp only[zzs] at hE
  repeat(obtain⟨hx',hE⟩:=hE)
  repeat' first
   |with_reducible first|refine Nx.go ?_ |refine Bk.go (fun _=>?_) fun _=>?_ |refine Nb fun nb hnb hnb1 hnb2=>?_
   |simp -dsimp -implicitDefEqProofs (disch:=first|exact Kd|fail) only[go_sem,↓reduceIte,seval]
  all_goals try(exfalso;omega)
  refine Tri.loopU tok [0,1,2,6,7,8,9,14,15,16,17,18,30] Kk [0,1,2,6,15,16,17] (fun n G' l H'=> ∃i:Nat,i+n=xs.length∧(∀j (h:j<xs.length),j<i→atL L xs[j]=atL L (ys[j]'(hxy▸h)))∧G'=G∧H'=H∧l=[(0, .slice ax xs.length cx),(1, .slice ay ys.length cy),(2, .func (.func 139) #[] #[.pointer (some ⟨b1,0,none⟩)]),(6, .bool false),(15, .slice ax xs.length cx),(16, .int .i64 xs.length),(17, .int .i64 i)]) (xs.length) (Upd.now ?_) ?_
  ·exact⟨0,by omega,fun j _ h=>by omega,rfl,rfl,rfl⟩
  ·rintro n G' l H' hle hs ⟨i,hi,hno,rfl,rfl,rfl⟩
   by_cases hil:i<xs.length
   ·have hil':i<ys.length:=by omega
    have hx:=hxs _ (List.getElem_mem hil)
    have hy:=hys _ (List.getElem_mem hil')
    have had:Adr ax:=hrx.adr (by rw[List.length_map];omega)
    have had2:Adr ay:=hry.adr (by rw[List.length_map];omega)
    repeat' first
     |with_reducible first|refine Nx.go ?_ |refine Bk.go (fun _=>?_) fun _=>?_ |refine Nb fun nb hnb hnb1 hnb2=>?_
     |simp -dsimp -implicitDefEqProofs (disch:=first|exact Kd|fail) only[go_sem,↓reduceIte,seval,Row.obj hrx,Row.obj hry,List.getElem_map]
     |with_reducible refine zwi (cap:=cap) hx hy hrow hg1 hf ?_
    ·rename_i he
     exact Upd.now ⟨n - 1,by omega,i+1,by omega,fun j h hj=>by
      by_cases e:j=i
      ·subst e;exact he
      ·exact hno j h Ko,rfl,rfl,rfl⟩
    ·rename_i he
     rw[zB fun h=>he (h.2 i hil)] at hR
     all_goals refine Upd.finL ?_ hR ?_
     any_goals first|exact Ks|skip
     rfl
   ·obtain rfl:i=xs.length:=by omega
    rw[zG (p:=zeb L xs ys) ⟨hxy,fun k hk=>hno k hk hk⟩] at hR
    repeat' first
     |with_reducible first|refine Nx.go ?_ |refine Bk.go (fun _=>?_) fun _=>?_ |refine Nb fun nb hnb hnb1 hnb2=>?_
     |simp -dsimp -implicitDefEqProofs (disch:=first|exact Kd|fail) only[go_sem,↓reduceIte,seval]
    all_goals refine Upd.finL ?_ hR ?_
    any_goals first|exact Ks|skip
    rfl
 ·rw[zB fun h=>hxy h.1] at hR
  refine FnT.body tok [0,1,2,6,7,8,9,14,15,16,17,18,30] Tryz.func140 rfl Kk Kk (by show _≤32;simp) fun hsep=>?_
  rw[Tryz.results140]
  have hE:=hsep
  try simp only[zzs] at hE
  repeat(obtain⟨hx',hE⟩:=hE)
  repeat' first
   |with_reducible first|refine Nx.go ?_ |refine Bk.go (fun _=>?_) fun _=>?_ |refine Nb fun nb hnb hnb1 hnb2=>?_
   |simp -dsimp -implicitDefEqProofs (disch:=first|exact Kd|fail) only[go_sem,↓reduceIte,seval]
  all_goals try(exfalso;omega)
  all_goals refine Upd.finL ?_ hR ?_
  any_goals first|exact Ks|skip
  rfl
end Go.Proofs.YtefkpedhbijhkaaGreatDoor
namespace Go.Proofs.YtefkpedhbijhkaaGreatDoor
open Go Go.V Go.Proofs
def toD (d:DfaT) (s:Int) (c:Nat):Int:=atL (d.next.getD s.toNat []) (d.of.getD c 0)
theorem zcA {d:DfaT} (hok:zd d) {x:Int} (hx:x∈d.of):0≤x∧x<d.width:=by
 obtain⟨hk1,hk2,hk3,hk4,hk5,hk6,hk7⟩:=hok
 rw[←hk4] at hx
 have:=za2 hx
 omega
theorem zut {d:DfaT} (hok:zd d) {C:List Value} {an al ay:Option Addr} {cn cl cs:Nat} {rs:List Value} {G:za} (O:OpenD G d C an al ay cn cl cs rs) {t c:Nat} (ht:t<d.label.length) (hc:c<256):
  ∃ (y:Nat) (z:Int) (b:Option Addr) (cc:Nat) (htn:t<d.next.length) (htv:t<rs.length) (hyk:y<d.next[t].length),y<256∧C[c]? =some (.int .u8 y)∧rs[t]= .slice b d.next[t].length cc∧Row G b (d.next[t].map (Value.int .i64))∧d.next[t].length≤cc∧d.next[t][y]=z∧toD d (t:Nat) c=z∧0≤z∧z<d.label.length∧Adr an∧Adr b:=by
 obtain⟨hk1,hk2,hk3,hk4,hk5,hk6,hk7⟩:=id hok
 have htn:t<d.next.length:=by omega
 have htv:t<rs.length:=by have:=O.rnl;omega
 obtain⟨b,cc,e1,e2,e3⟩:=O.rs t htn htv
 obtain⟨hw0,_,_,hrng⟩:=hk7 t htn ht
 have hco:c<d.of.length:=by rw[O.ofl];exact hc
 have hox:=zcA hok (List.getElem_mem hco)
 have hob:=O.ofb _ (List.getElem_mem hco)
 obtain⟨y,hy⟩:=Int.eq_ofNat_of_zero_le hox.1
 have hyk:y< (d.next[t]).length:=by omega
 have hCc:C[c]? =some (.int .u8 d.of[c]):=by
  have h1:(C.take 256)[c]? =C[c]? :=by rw[List.getElem?_take,if_pos hc]
  rw[←h1,O.of]
  unfold u8L
  rw[List.getElem?_map,List.getElem?_eq_getElem hco];rfl
 rw[hy] at hCc
 have hval:toD d (t:Nat) c=(d.next[t])[y]:=by
  unfold toD
  rw[Int.toNat_natCast,List.getD_eq_getElem?_getD,List.getElem?_eq_getElem htn,List.getD_eq_getElem?_getD,List.getElem?_eq_getElem hco]
  show atL d.next[t] d.of[c]=_
  rw[hy,zX (by simpa using hyk)]
  simp only[Int.toNat_natCast]
 have hz:=hrng _ (List.getElem_mem hyk)
 exact⟨y,d.next[t][y],b,cc,htn,htv,hyk,by omega,hCc,e1,e2,e3,rfl,hval,hz.1,hz.2,O.rn.adr Ko,e2.adr (by rw[List.length_map];omega)⟩
end Go.Proofs.YtefkpedhbijhkaaGreatDoor
namespace Go.Proofs.YtefkpedhbijhkaaGreatDoor
open Go Go.V Go.Proofs
theorem DfaT.ext2 {d e:DfaT} (h1:d.of=e.of) (h2:d.width=e.width) (h3:d.next=e.next) (h4:d.label=e.label) (h5:d.names=e.names):d=e:=by
 cases d;cases e;simp only at h1 h2 h3 h4 h5;subst h1 h2 h3 h4 h5;rfl
def zaI (d:DfaT) (w:List UInt8):Int:=w.foldl (fun s b=>toD d s b.toNat) 0
theorem zdS (d:DfaT) (w:List UInt8) {i:Nat} (h:i<w.length):zaI d (w.take (i+1))=toD d (zaI d (w.take i)) w[i].toNat:=by
 unfold zaI;rw[List.take_succ_eq_append_getElem h,List.foldl_append];rfl
theorem zgI {d:DfaT} (hok:zd d) (hof:d.of.length=256) {s:Int} (hs:0≤s∧s<d.label.length) {c:Nat} (hc:c<256):0≤toD d s c∧toD d s c<d.label.length:=by
 obtain⟨t,rfl⟩:=Int.eq_ofNat_of_zero_le hs.1
 obtain⟨hk1,hk2,hk3,hk4,hk5,hk6,hk7⟩:=id hok
 have htn:t<d.next.length:=by omega
 have hco:c<d.of.length:=by omega
 have hox:=zcA hok (List.getElem_mem hco)
 obtain⟨y,hy⟩:=Int.eq_ofNat_of_zero_le hox.1
 obtain⟨hw0,_,_,hrng⟩:=hk7 t htn Ko
 have hyk:y< (d.next[t]).length:=by omega
 have hval:toD d (t:Nat) c=(d.next[t])[y]:=by
  unfold toD
  rw[Int.toNat_natCast,List.getD_eq_getElem?_getD,List.getElem?_eq_getElem htn,List.getD_eq_getElem?_getD,List.getElem?_eq_getElem hco]
  show atL d.next[t] d.of[c]=_
  rw[hy,zX (by simpa using hyk)]
  simp only[Int.toNat_natCast]
 rw[hval]
 exact hrng _ (List.getElem_mem hyk)
theorem zbT {d:DfaT} (hok:zd d) (hof:d.of.length=256) (w:List UInt8):0≤zaI d w∧zaI d w<d.label.length:=by
 have key: ∀i,i≤w.length→0≤zaI d (w.take i)∧zaI d (w.take i) <d.label.length:=by
  intro i
  induction i with
  |zero=>intro _;rw[List.take_zero];have:=hok.1;exact⟨Int.le_refl 0,by show(0 :Int) <_;omega⟩
  |succ i ih=>
   intro h
   rw[zdS d w h]
   exact zgI hok hof (ih Ko) w[i].toNat_lt
 have:=key w.length (Nat.le_refl _)
 rwa [List.take_length] at this
noncomputable def zhd (d:DfaT) (w:List UInt8):Int:=if zaE (zd d)=true then zaI d w else -1
def zac (d:DfaT) (w:List UInt8):Int:=atL d.label (zaI d w)
noncomputable def zci (d:DfaT) (w:List UInt8):Int:=if zaE (zd d)=true then zac d w else 0
def zaU (d:DfaT) (k:Int):List UInt8:=if 0<k then d.names.getD (k - 1).toNat [] else[]
theorem zuu {d:DfaT} (hok:zd d) (hof:d.of.length=256) (w:List UInt8):0≤zac d w∧zac d w≤d.names.length:=by
 obtain⟨h1,h2⟩:=zbT hok hof w
 unfold zac
 obtain⟨i,hi⟩:=Int.eq_ofNat_of_zero_le h1
 rw[hi] at h2⊢
 obtain⟨hk1,hk2,hk3,hk4,hk5,hk6,hk7⟩:=id hok
 obtain⟨_,g1,g2,_⟩:=hk7 i Ko Ko
 rw[zX (by simpa using h2)]
 simp only[Int.toNat_natCast]
 exact⟨g1,g2⟩
theorem zsk {d:DfaT} (hsm:zt d) {w:List UInt8} (hwl:w.length≤2000000) {G:za} {H:zb} {R:Value→za→zb→Prop} {v vw:Value} (hv:IsD G d v) (hw:Sl G z7 vw w)
  (hR:R (.int .i64 (zhd d w)) G H):FnT Tryz.prog 66 [v,vw] G H R:=by
 obtain⟨C,an,al,ay,cn,cl,cs,rs,rfl,O⟩:=hv.opened
 obtain⟨aw,cw,rfl,hwr,hwc⟩:=hw
 have hCl:=O.len
 have hCa:=O.all
 have hCn:=O.n
 by_cases hok:zd d
 ·have hb:=zG hok
  have hz:zhd d w=zaI d w:=by unfold zhd;rw[if_pos hb]
  rw[hz] at hR
  have hk2:=hok.2.1
  have hrnl:=O.rnl
  refine FnT.body tok [0,1,2,4,5,7,10,11,12,13,14] Tryz.func66 rfl Kk Kk (by show _≤30;simp) fun hsep=>?_
  rw[Tryz.results66]
  have hE:=hsep
  try simp only[zzs] at hE
  repeat(obtain⟨hx',hE⟩:=hE)
  repeat' first
   |with_reducible first|refine Nx.go ?_ |refine Bk.go (fun _=>?_) fun _=>?_ |refine Nb fun nb hnb hnb1 hnb2=>?_
   |simp -dsimp -implicitDefEqProofs (disch:=first|exact Kd|fail) only[go_sem,↓reduceIte,seval, -List.reduceReplicate,List.toList_toArray,hCl,hCa,hb]
   |with_reducible refine zav hsm O.is ?_
  refine Tri.loopU tok [0,1,2,4,5,7,10,11,12,13,14] Kk [1,2,4,5,11,12,13] (fun q G' fr H'=> ∃i:Nat,i+q=w.length∧G'=G∧H'=(nb, .cells C [] 27)::H∧fr=[(1, .slice aw w.length cw),(2, .pointer (some ⟨nb,0,none⟩)),(4, .int .i64 0),(5, .int .i64 (zaI d (w.take i))),(11, .slice aw w.length cw),(12, .int .i64 w.length),(13, .int .i64 (i:Nat))]) (w.length) (Upd.now ?_) ?_
  ·exact⟨0,by omega,rfl,rfl,by rw[List.take_zero];rfl⟩
  ·rintro q G1 fr H' hle hs1 ⟨i,hiq,rfl,rfl,rfl⟩
   by_cases hil:i<w.length
   ·have hadw:Adr aw:=hwr.adr (by rw[List.length_map];omega)
    have hrun:=zdS d w hil
    obtain⟨h1,h2⟩:=zbT hok O.ofl (w.take i)
    obtain⟨t,ht⟩:=Int.eq_ofNat_of_zero_le h1
    rw[ht] at h2 hrun⊢
    have hc:=w[i].toNat_lt
    generalize hcc:w[i].toNat=c at *
    obtain⟨y,z,b,cc,htn,htv,hyk,hyb,hCc,e1,e2,e3,hz1,hval,hz2,hz3,had,had2⟩:=zut hok O (t:=t) Ko hc
    have hrl:=hsm.2.1 _ (List.getElem_mem htn)
    rw[hval] at hrun
    repeat' first
     |with_reducible first|refine Nx.go ?_ |refine Bk.go (fun _=>?_) fun _=>?_ |refine Nb fun nb hnb hnb1 hnb2=>?_
     |with_reducible refine Tri.drawM tok mixed [0,1,2,4,5,7,10,11,12,13,14] 7 [1,4,8,10] (.op 0 .plain (.op 1 .held (.op 2 .plain (.op 3 .plain (.op 4 .held (.op 5 .plain (.op 6 .plain (.op 7 .plain (.op 8 .held (.op 9 .plain (.op 10 .held (.op 11 .plain .nil)))))))))))) Kk _ (List.Sublist.refl _) ?_
     |simp -dsimp -implicitDefEqProofs (disch:=first|exact Kd|fail) only[go_sem,↓reduceIte,seval, -List.reduceReplicate,List.toList_toArray,hCl,hCa,hCn,hCc,Row.obj hwr,z7,hcc,Row.obj O.rn,e1,Row.obj e2,List.getElem_map,hz1]
    exact Upd.now ⟨q - 1,by omega,i+1,by omega,rfl,rfl,by rw[hrun];rfl⟩
   ·obtain rfl:i=w.length:=by omega
    rw[List.take_length]
    repeat' first
     |with_reducible first|refine Nx.go ?_ |refine Bk.go (fun _=>?_) fun _=>?_ |refine Nb fun nb hnb hnb1 hnb2=>?_
     |simp -dsimp -implicitDefEqProofs (disch:=first|exact Kd|fail) only[go_sem,↓reduceIte,seval]
    all_goals refine Upd.finL ?_ hR ?_
    any_goals first|exact Ks|skip
    all_goals rfl
 ·have hb:=zB hok
  have hz:zhd d w= -1:=by unfold zhd;rw[if_neg (by rw[hb];exact Bool.false_ne_true)]
  rw[hz] at hR
  refine FnT.body tok [0,1,2,4,5,7,10,11,12,13,14] Tryz.func66 rfl Kk Kk (by show _≤30;simp) fun hsep=>?_
  rw[Tryz.results66]
  have hE:=hsep
  try simp only[zzs] at hE
  repeat(obtain⟨hx',hE⟩:=hE)
  repeat' first
   |with_reducible first|refine Nx.go ?_ |refine Bk.go (fun _=>?_) fun _=>?_ |refine Nb fun nb hnb hnb1 hnb2=>?_
   |simp -dsimp -implicitDefEqProofs (disch:=first|exact Kd|fail) only[go_sem,↓reduceIte,seval, -List.reduceReplicate,List.toList_toArray,hCl,hCa,hb]
   |with_reducible refine zav hsm O.is ?_
  all_goals refine Upd.finL ?_ hR ?_
  any_goals first|exact Ks|skip
  all_goals rfl
theorem zpl {d:DfaT} (hsm:zt d) {w:List UInt8} (hwl:w.length≤2000000) {G:za} {H:zb} {R:Value→za→zb→Prop} {v vw:Value} (hv:IsD G d v) (hw:Sl G z7 vw w)
  (hR:R (.int .i64 (zci d w)) G H):FnT Tryz.prog 40 [v,vw] G H R:=by
 obtain⟨C,an,al,ay,cn,cl,cs,rs,rfl,O⟩:=hv.opened
 have hCl:=O.len
 have hCa:=O.all
 have hCx:=O.l
 by_cases hok:zd d
 ·have hb:=zG hok
  have hz:zci d w=zac d w:=by unfold zci;rw[if_pos hb]
  have hz2:zhd d w=zaI d w:=by unfold zhd;rw[if_pos hb]
  rw[hz] at hR
  obtain⟨h1,h2⟩:=zbT hok O.ofl w
  have had:Adr al:=O.rl.adr (by rw[List.length_map];omega)
  unfold zac at hR
  obtain⟨t,ht⟩:=Int.eq_ofNat_of_zero_le h1
  rw[ht] at h2 hz2 hR
  rw[zX (by simpa using h2)] at hR
  simp only[Int.toNat_natCast] at hR
  refine FnT.body tok [0,1,2,4,5,10] Tryz.func40 rfl Kk Kk (by show _≤16;simp) fun hsep=>?_
  rw[Tryz.results40]
  have hE:=hsep
  try simp only[zzs] at hE
  repeat(obtain⟨hx',hE⟩:=hE)
  repeat' first
   |with_reducible first|refine Nx.go ?_ |refine Bk.go (fun _=>?_) fun _=>?_ |refine Nb fun nb hnb hnb1 hnb2=>?_
   |simp -dsimp -implicitDefEqProofs (disch:=first|exact Kd|fail) only[go_sem,↓reduceIte,seval, -List.reduceReplicate,List.toList_toArray,hCl,hCa,hCx,hz2,Row.obj O.rl,List.getElem_map]
   |with_reducible refine zsk hsm hwl O.is hw ?_
  all_goals try(exfalso;omega)
  all_goals refine Upd.finL ?_ hR ?_
  any_goals first|exact Ks|skip
  all_goals rfl
 ·have hb:=zB hok
  have hz:zci d w=0:=by unfold zci;rw[if_neg (by rw[hb];exact Bool.false_ne_true)]
  have hz2:zhd d w= -1:=by unfold zhd;rw[if_neg (by rw[hb];exact Bool.false_ne_true)]
  rw[hz] at hR
  refine FnT.body tok [0,1,2,4,5,10] Tryz.func40 rfl Kk Kk (by show _≤16;simp) fun hsep=>?_
  rw[Tryz.results40]
  have hE:=hsep
  try simp only[zzs] at hE
  repeat(obtain⟨hx',hE⟩:=hE)
  repeat' first
   |with_reducible first|refine Nx.go ?_ |refine Bk.go (fun _=>?_) fun _=>?_ |refine Nb fun nb hnb hnb1 hnb2=>?_
   |simp -dsimp -implicitDefEqProofs (disch:=first|exact Kd|fail) only[go_sem,↓reduceIte,seval, -List.reduceReplicate,List.toList_toArray,hCl,hCa,hCx,hz2]
   |with_reducible refine zsk hsm hwl O.is hw ?_
  all_goals try(exfalso;omega)
  all_goals refine Upd.finL ?_ hR ?_
  any_goals first|exact Ks|skip
  all_goals rfl
theorem zpm {d:DfaT} (hsm:zt d) {w:List UInt8} (hwl:w.length≤2000000) {G:za} {H:zb} {R:Value→za→zb→Prop} {v vw:Value} (hv:IsD G d v) (hw:Sl G z7 vw w)
  (hR:R (str (zaU d (zci d w))) G H):FnT Tryz.prog 19 [v,vw] G H R:=by
 obtain⟨C,an,al,ay,cn,cl,cs,rs,rfl,O⟩:=hv.opened
 have hCl:=O.len
 have hCa:=O.all
 have hCy:=O.s
 have hbnd:0≤zci d w∧zci d w≤d.names.length:=by
  by_cases hok:zd d
  ·have hz:zci d w=zac d w:=by unfold zci;rw[if_pos (zG hok)]
   rw[hz];exact zuu hok O.ofl w
  ·have hz:zci d w=0:=by unfold zci;rw[if_neg (by rw[zB hok];exact Bool.false_ne_true)]
   rw[hz];omega
 have hsml:=hsm.2.2.2.1
 obtain⟨k,hk⟩:=Int.eq_ofNat_of_zero_le hbnd.1
 rw[hk] at hR hbnd
 by_cases hk0:k=0
 ·subst hk0
  have hnn:zaU d ((0 :Nat):Int)=[]:=by unfold zaU;rw[if_neg Ko]
  rw[hnn] at hR
  refine FnT.body tok [0,1,2,4,5,10] Tryz.func19 rfl Kk Kk (by show _≤17;simp) fun hsep=>?_
  rw[Tryz.results19]
  have hE:=hsep
  try simp only[zzs] at hE
  repeat(obtain⟨hx',hE⟩:=hE)
  repeat' first
   |with_reducible first|refine Nx.go ?_ |refine Bk.go (fun _=>?_) fun _=>?_ |refine Nb fun nb hnb hnb1 hnb2=>?_
   |simp -dsimp -implicitDefEqProofs (disch:=first|exact Kd|fail) only[go_sem,↓reduceIte,seval, -List.reduceReplicate,List.toList_toArray,hCl,hCa,hCy,hk]
   |with_reducible refine zpl hsm hwl O.is hw ?_
  all_goals try(exfalso;omega)
  all_goals refine Upd.finL ?_ hR ?_
  any_goals first|exact Ks|skip
  all_goals rfl
 ·obtain⟨j,rfl⟩: ∃j,k=j+1:=⟨k - 1,by omega⟩
  have hj:j<d.names.length:=by omega
  have had:Adr ay:=O.ry.adr (by rw[List.length_map];omega)
  have hnn:zaU d ((j+1 :Nat):Int)=d.names[j]:=by
   unfold zaU
   rw[if_pos Ko,show(((j+1 :Nat):Int) - 1).toNat=j by omega,List.getD_eq_getElem?_getD,List.getElem?_eq_getElem hj,Option.getD_some]
  rw[hnn] at hR
  have hsub:((j+1 :Nat):Int) - 1=(j:Nat):=by omega
  refine FnT.body tok [0,1,2,4,5,10] Tryz.func19 rfl Kk Kk (by show _≤17;simp) fun hsep=>?_
  rw[Tryz.results19]
  have hE:=hsep
  try simp only[zzs] at hE
  repeat(obtain⟨hx',hE⟩:=hE)
  repeat' first
   |with_reducible first|refine Nx.go ?_ |refine Bk.go (fun _=>?_) fun _=>?_ |refine Nb fun nb hnb hnb1 hnb2=>?_
   |simp -dsimp -implicitDefEqProofs (disch:=first|exact Kd|fail) only[go_sem,↓reduceIte,seval, -List.reduceReplicate,List.toList_toArray,hCl,hCa,hCy,hk,hsub,Row.obj O.ry,List.getElem_map]
   |with_reducible refine zpl hsm hwl O.is hw ?_
  all_goals try(exfalso;omega)
  all_goals refine Upd.finL ?_ hR ?_
  any_goals first|exact Ks|skip
  all_goals rfl
end Go.Proofs.YtefkpedhbijhkaaGreatDoor
namespace Go.Proofs.YtefkpedhbijhkaaGreatDoor
open Go Go.V Go.Proofs
section bare
variable {α:Type}
theorem zwj {cell:α→List Value} {m:Nat} (hm: ∀x,(cell x).length=m) (ks:List α) (k:α):((ks++[k]).flatMap cell).length=(ks++[k]).length * m:=zaS hm _
theorem zwk {cell:α→List Value} {m:Nat} (hm: ∀x,(cell x).length=m) (ks:List α) (k:α) {s c:Nat} (h:(ks.length+1) * m+s=c):((ks++[k]).flatMap cell).length+s=c:=by
 rw[zaS hm];simpa using h
end bare
section plain
variable {α:Type} [DecidableEq α]
def zdm (ks:List α) (k:α):List α×Int×Bool:=match place ks k with|some n=>(ks,(n:Int),false)|none=>(ks++[k],(ks.length:Int),true)
theorem zqO {ks:List α} (h:ks.Nodup) (k:α):(zdm ks k).1.Nodup:=by
 unfold zdm
 split
 ·exact h
 ·rename_i hn
  exact List.nodup_append.2 ⟨h,by simp,fun a ha b hb=>by
   obtain rfl:b=k:=by simpa using hb
   intro e;subst e;exact zcv hn ha⟩
theorem zjv {ks:List α} {k:α} {n:Nat} (h:place ks k=some n):zdm ks k=(ks,(n:Int),false):=by unfold zdm;rw[h]
theorem zhe {ks:List α} {k:α} (h:place ks k=none):zdm ks k=(ks++[k],(ks.length:Int),true):=by unfold zdm;rw[h]
end plain
def Tab {α:Type} [DecidableEq α] (enc:α→Value) (cell:α→List Value) (m:Nat) (st et:TypeId) (tb:zb) (pt:Value) (ks:List α):Prop:=
 ks.Nodup∧ ∃bt bm v kb,pt= .pointer (some ⟨bt,0,none⟩)∧tb=(bt, .cells [.map (some bm),v] [] st):: (bm, .map ((zbh 0 ks).map fun p=>(enc p.1,Value.int .i64 p.2)))::kb∧zH [] et m v ks.length (ks.flatMap cell) kb
theorem zsl (T:Tys) (t:TypeId) (k:Value):zf1 T t k []=some none:=rfl
theorem zuv (T:Tys) (t:TypeId) (k v:Value):zgY T t k v []=some [(k,v)]:=rfl
theorem zqP:zdZ T 9 str:=zko (T:=T) (t:=9) rfl
abbrev zgo (tb:zb) (pt:Value) (ks:List (List UInt8)):Prop:=Tab str (fun k=>[str k]) 1 85 9 tb pt ks
theorem zw9 {G:za} {H:zb} {R:Value→za→zb→Prop} (hR: ∀tb pt,Sep G (zk (tb++H))→zgo tb pt []→R pt G (tb++H)):FnT Tryz.prog 42 [] G H R:=by
 refine FnT.sep ?_
 refine FnT.body tok [0] Tryz.func42 rfl Kk Kk (by show _≤4;simp) fun hsep=>?_
 rw[Tryz.results42]
 have hE:=hsep
 try simp only[zzs] at hE
 repeat(obtain⟨hx',hE⟩:=hE)
 repeat' first
  |with_reducible first|refine Nx.go ?_ |refine Bk.go (fun _=>?_) fun _=>?_ |refine Nb fun nb hnb hnb1 hnb2=>?_ |refine Nr fun nb nsp ncap hnb hncap hnb1 hnb2=>?_
  |simp -dsimp -implicitDefEqProofs (disch:=first|exact Kd|fail) only[go_sem,↓reduceIte,seval]
 rename_i b0 hb0 _ _
 refine Upd.now (fun _ hs=>hR [(nb,_),(b0,_)] _ hs ⟨List.nodup_nil,nb,b0,_,[],rfl,rfl, .inl ⟨_,rfl,rfl,rfl,rfl⟩⟩)
theorem zxa (k:List UInt8) {tb:zb} {pt:Value} {ks:List (List UInt8)} (ht:zgo tb pt ks) (hlen:ks.length≤1000000) {G:za} {H:zb} {R:Value→za→zb→Prop}
  (hR: ∀tb',Sep G (zk (tb'++H))→zgo tb' pt (zdm ks k).1→R (.tuple #[.int .i64 (zdm ks k).2.1, .bool (zdm ks k).2.2]) G (tb'++H)):FnT Tryz.prog 70 [pt,(str k)] G (tb++H) R:=by
 obtain⟨hnd,bt,bm,v,kb,rfl,rfl,hv⟩:=ht
 refine FnT.sep ?_
 have hnd':=zqO hnd k
 have hfl:=zaS (enc:=(fun k=>[str k])) (m:=1) (fun _=>rfl) ks
 rcases hv with ⟨a0,rfl,hn,hx,rfl⟩| ⟨b1,cap,sp,rfl,rfl,hx,hc⟩
 ·obtain rfl:ks=[]:=List.eq_nil_of_length_eq_zero hn
  rw[zhe (zib _)] at hR hnd'
  refine FnT.body tok [0,1,4,5,6,7,8,10,20] Tryz.func70 rfl Kk Kk (by show _≤44;simp) fun hsep=>?_
  rw[Tryz.results70]
  have hE:=hsep
  try simp only[zzs] at hE
  repeat(obtain⟨hx',hE⟩:=hE)
  repeat' first
   |with_reducible first|refine Nx.go ?_ |refine Bk.go (fun _=>?_) fun _=>?_ |refine zas.mk (fun _ _=>?_) fun _=>?_ |refine Nb fun nb hnb hnb1 hnb2=>?_ |refine Nr fun nb nsp ncap hnb hncap hnb1 hnb2=>?_
   |simp -dsimp -implicitDefEqProofs (disch:=first|exact Kd|fail) only[go_sem,↓reduceIte,seval,zsl,zuv,zbq zqP,zup]
  try unfold zz
  refine Upd.pick [bt,bm,nb] ?_
  simp -dsimp -implicitDefEqProofs (disch:=first|exact Kd|fail) only[go_sem,↓reduceIte,seval]
  refine Upd.sub (H':=_::_::_::H) (by repeat(first|exact List.Sublist.refl _|refine List.Sublist.cons_cons _ ?_ |refine List.Sublist.cons _ ?_)) ?_
  exact fun _ hs=>zm6 (R:=R) (hR [(bt, .cells [.map (some bm), .slice (some ⟨nb,0,none⟩) (1) ncap] [] 85),(bm, .map [((str k), .int .i64 0)]),(nb, .cells ([str k]) nsp 9)] hs ⟨hnd',bt,bm,_,[_],rfl,rfl, .inr ⟨nb,ncap,nsp,rfl,rfl,rfl,hncap⟩⟩) rfl
 ·refine FnT.body tok [0,1,4,5,6,7,8,10,20] Tryz.func70 rfl Kk Kk (by show _≤44;simp) fun hsep=>?_
  rw[Tryz.results70]
  have hE:=hsep
  try simp only[zzs] at hE
  repeat(obtain⟨hx',hE⟩:=hE)
  repeat' first
   |with_reducible first|refine Nx.go ?_ |refine Bk.go (fun _=>?_) fun _=>?_ |refine zas.mk (fun _ _=>?_) fun _=>?_ |refine Nb fun nb hnb hnb1 hnb2=>?_ |refine Nr fun nb nsp ncap hnb hncap hnb1 hnb2=>?_
   |simp -dsimp -implicitDefEqProofs (disch:=first|exact Kd|fail) only[go_sem,↓reduceIte,seval,zbC zqP (Value.int .i64),zbq zqP,zbx,Option.map_map,zb8 zqP (Value.int .i64),zcw]
  ·rename_i n hp
   rw[zjv hp] at hR
   try unfold zz
   refine Upd.pick [bt,bm,b1] ?_
   simp -dsimp -implicitDefEqProofs (disch:=first|exact Kd|fail) only[go_sem,↓reduceIte,seval]
   refine Upd.sub (H':=_::_::_::H) (by repeat(first|exact List.Sublist.refl _|refine List.Sublist.cons_cons _ ?_ |refine List.Sublist.cons _ ?_)) ?_
   exact fun _ hs=>zm6 (R:=R) (hR [(bt, .cells [.map (some bm), .slice (some ⟨b1,0,none⟩) (ks.length) cap] [] 85),(bm, .map ((zbh 0 (ks)).map fun p=>(str p.1,Value.int .i64 p.2))),(b1, .cells (ks.flatMap (fun k=>[str k])) sp 9)] hs ⟨hnd,bt,bm,_,[_],rfl,rfl, .inr ⟨b1,cap,sp,rfl,rfl,hx,hc⟩⟩) rfl
  ·have hp:place ks k=none:=by assumption
   rw[zhe hp] at hR hnd'
   have el:(ks++[k]).length=ks.length+1:=by simp
   have ef:(ks++[k]).flatMap (fun k=>[str k])=ks.flatMap (fun k=>[str k])++(fun k=>[str k]) k:=by simp
   try unfold zz
   refine Upd.pick [bt,bm,nb] ?_
   simp -dsimp -implicitDefEqProofs (disch:=first|exact Kd|fail) only[go_sem,↓reduceIte,seval]
   refine Upd.sub (H':=_::_::_::H) (by repeat(first|exact List.Sublist.refl _|refine List.Sublist.cons_cons _ ?_ |refine List.Sublist.cons _ ?_)) ?_
   exact fun _ hs=>zm6 (R:=R) (hR [(bt, .cells [.map (some bm), .slice (some ⟨nb,0,none⟩) (ks.length+1) ncap] [] 85),(bm, .map ((zbh 0 (ks++[k])).map fun p=>(str p.1,Value.int .i64 p.2))),(nb, .cells (ks.flatMap (fun k=>[str k])++[str k]) nsp 9)] hs ⟨hnd',bt,bm,_,[_],rfl,rfl, .inr ⟨nb,ncap,nsp,by rw[el],by first| (rw[ef];done)| (rw[ef];rfl),zwj (cell:=(fun k=>[str k])) (m:=1) (fun _=>rfl) ks k,zwk (cell:=(fun k=>[str k])) (m:=1) (fun _=>rfl) ks k hncap⟩⟩) rfl
end Go.Proofs.YtefkpedhbijhkaaGreatDoor
namespace Go.Proofs.YtefkpedhbijhkaaGreatDoor
open Go Go.V Go.Proofs
section lists
variable {α:Type} [DecidableEq α] (z:α)
def zaB (next:List (List Int)) (f:List α) (k:Nat):List α:=next.map fun row=>f.getD (row.getD k 0).toNat z
def zaj (next:List (List Int)) (w:Nat) (f:List α):List (List α):=(List.range w).map (zaB z next f)
def zaz (ls:List (List α)) (x:List α):List (List α):=if x∈ls then ls else ls++[x]
def lsA (next:List (List Int)) (w:Nat) (f0:List α):Nat→List (List α)
 |0=>[f0]
 |i+1=>match (lsA next w f0 i)[i]? with
  |some f=>(zaj z next w f).foldl zaz (lsA next w f0 i)
  |none=>lsA next w f0 i
end lists
section plain
variable {α:Type} [DecidableEq α] {z:α}
theorem zoL (ls:List (List α)) (x:List α):ls <+: zaz ls x:=by
 unfold zaz;split
 ·exact List.prefix_refl _
 ·exact List.prefix_append _ _
theorem zjw (ls:List (List α)) (x:List α):x∈zaz ls x:=by
 unfold zaz;split
 ·assumption
 ·simp
theorem zqQ {ls:List (List α)} (h:ls.Nodup) (x:List α):(zaz ls x).Nodup:=by
 unfold zaz;split
 ·exact h
 ·rename_i hn
  exact List.nodup_append.2 ⟨h,by simp,fun a ha b hb=>by
   rw[List.mem_singleton] at hb
   intro e;subst e;subst hb;exact hn ha⟩
theorem zwl {ls:List (List α)} {x y:List α} (h:y∈zaz ls x):y∈ls∨y=x:=by
 unfold zaz at h;split at h
 ·exact .inl h
 ·simpa using h
theorem zd0 (xs:List (List α)): ∀ls:List (List α),ls <+: xs.foldl zaz ls:=by
 induction xs with
 |nil=>intro ls;exact List.prefix_refl _
 |cons x xs ih=>intro ls;exact(zoL ls x).trans (ih _)
theorem zsm {xs:List (List α)} {x:List α} (hx:x∈xs): ∀ls:List (List α),x∈xs.foldl zaz ls:=by
 induction xs with
 |nil=>cases hx
 |cons y xs ih=>
  intro ls
  rcases List.mem_cons.1 hx with rfl|hx
  ·exact(zd0 xs _).subset (zjw ls x)
  ·exact ih hx _
theorem zoM (xs:List (List α)): ∀ {ls:List (List α)},ls.Nodup→(xs.foldl zaz ls).Nodup:=by
 induction xs with
 |nil=>intro ls h;exact h
 |cons x xs ih=>intro ls h;exact ih (zqQ h x)
theorem zjx {xs:List (List α)} {y:List α}: ∀ {ls:List (List α)},y∈xs.foldl zaz ls→y∈ls∨y∈xs:=by
 induction xs with
 |nil=>intro ls h;exact .inl h
 |cons x xs ih=>
  intro ls h
  rcases ih h with h|h
  ·rcases zwl h with h|rfl
   ·exact .inl h
   ·exact .inr (List.mem_cons_self ..)
  ·exact .inr (List.mem_cons_of_mem _ h)
theorem zb9 {next:List (List Int)} {w:Nat} {f0:List α} {i:Nat} (h:i< (lsA z next w f0 i).length):lsA z next w f0 (i+1)=(zaj z next w (lsA z next w f0 i)[i]).foldl zaz (lsA z next w f0 i):=by
 show(match (lsA z next w f0 i)[i]? with|some f=>_|none=>_)=_
 rw[List.getElem?_eq_getElem h]
theorem zbZ {next:List (List Int)} {w:Nat} {f0:List α} {i:Nat} (h:(lsA z next w f0 i).length≤i):lsA z next w f0 (i+1)=lsA z next w f0 i:=by
 show(match (lsA z next w f0 i)[i]? with|some f=>_|none=>_)=_
 rw[List.getElem?_eq_none h]
theorem zoN (next:List (List Int)) (w:Nat) (f0:List α) (i:Nat):lsA z next w f0 i <+: lsA z next w f0 (i+1):=by
 by_cases h:i< (lsA z next w f0 i).length
 ·rw[zb9 h];exact zd0 _ _
 ·rw[zbZ Ko];exact List.prefix_refl _
theorem zdd (next:List (List Int)) (w:Nat) (f0:List α) {i j:Nat} (h:i≤j):lsA z next w f0 i <+: lsA z next w f0 j:=by
 obtain⟨k,rfl⟩:=Nat.exists_eq_add_of_le h
 induction k with
 |zero=>exact List.prefix_refl _
 |succ k ih=>exact(ih Ko).trans (zoN next w f0 (i+k))
theorem zif (next:List (List Int)) (w:Nat) (f0:List α): ∀i,(lsA z next w f0 i).Nodup
 |0=>by simp [lsA]
 |i+1=>by
  by_cases h:i< (lsA z next w f0 i).length
  ·rw[zb9 h];exact zoM _ (zif next w f0 i)
  ·rw[zbZ Ko];exact zif next w f0 i
theorem zlg (next:List (List Int)) (w:Nat) (f0:List α) (i:Nat):0< (lsA z next w f0 i).length:=by
 have:=(zdd (z:=z) next w f0 (Nat.zero_le i)).length_le
 have h1:(lsA z next w f0 0).length=1:=rfl
 omega
theorem zsn (next:List (List Int)) (w:Nat) (f0:List α) (i:Nat):(lsA z next w f0 i)[0]'(zlg next w f0 i)=f0:=by
 have h:=zdd (z:=z) next w f0 (Nat.zero_le i)
 have:=h.getElem (i:=0) (by show 0<1;omega)
 exact this.symm
theorem ziU {next:List (List Int)} {w:Nat} {f0:List α} (h0:f0.length=next.length): ∀i,∀f∈lsA z next w f0 i,f.length=next.length
 |0,f,hf=>by
  have:f=f0:=by simpa [lsA] using hf
  rw[this,h0]
 |i+1,f,hf=>by
  by_cases h:i< (lsA z next w f0 i).length
  ·rw[zb9 h] at hf
   rcases zjx hf with hf|hf
   ·exact ziU h0 i f hf
   ·obtain⟨k,_,rfl⟩:=List.mem_map.1 hf
    unfold zaB;rw[List.length_map]
  ·rw[zbZ Ko] at hf
   exact ziU h0 i f hf
theorem zfH {next:List (List Int)} {w:Nat} {f0:List α} {i:Nat} (h:(lsA z next w f0 i).length≤i): ∀j,i≤j→lsA z next w f0 j=lsA z next w f0 i:=by
 intro j hj
 obtain⟨k,rfl⟩:=Nat.exists_eq_add_of_le hj
 induction k with
 |zero=>rfl
 |succ k ih=>
  have ih:=ih Ko
  rw[show i+(k+1)=(i+k)+1 by omega,zbZ (by rw[ih];omega),ih]
theorem zku {next:List (List Int)} {w:Nat} {f0:List α} {m i k:Nat} (hi:i<m) (hl:i< (lsA z next w f0 m).length) (hk:k<w):zaB z next ((lsA z next w f0 m)[i]) k∈lsA z next w f0 m:=by
 have h1:i< (lsA z next w f0 i).length:=by
  apply Classical.byContradiction
  intro hn
  have:=zfH (z:=z) (next:=next) (w:=w) (f0:=f0) (i:=i) Ko m Ko
  rw[this] at hl
  omega
 have h2:(lsA z next w f0 i)[i]=(lsA z next w f0 m)[i]:=(zdd (z:=z) next w f0 (by omega:i≤m)).getElem h1
 have h3:zaB z next (lsA z next w f0 i)[i] k∈lsA z next w f0 (i+1):=by
  rw[zb9 h1]
  exact zsm (List.mem_map.2 ⟨k,List.mem_range.2 hk,rfl⟩) _
 rw[h2] at h3
 exact(zdd (z:=z) next w f0 (by omega:i+1≤m)).subset h3
theorem zhf {next:List (List Int)} {w:Nat} {f0:List α}: ∀m,∀f∈lsA z next w f0 m,∃ks:List Nat,(∀k∈ks,k<w)∧f=ks.foldl (zaB z next) f0
 |0,f,hf=>⟨[],by simp,by simpa [lsA] using hf⟩
 |m+1,f,hf=>by
  by_cases h:m< (lsA z next w f0 m).length
  ·rw[zb9 h] at hf
   rcases zjx hf with hf|hf
   ·exact zhf m f hf
   ·obtain⟨k,hk,rfl⟩:=List.mem_map.1 hf
    obtain⟨ks,h1,h2⟩:=zhf m _ (List.getElem_mem h)
    refine⟨ks++[k],fun x hx=>?_,?_⟩
    ·rcases List.mem_append.1 hx with hx|hx
     ·exact h1 x hx
     ·rw[List.mem_singleton] at hx;rw[hx];exact List.mem_range.1 hk
    ·rw[List.foldl_append,←h2];rfl
  ·rw[zbZ Ko] at hf
   exact zhf m f hf
end plain
end Go.Proofs.YtefkpedhbijhkaaGreatDoor
