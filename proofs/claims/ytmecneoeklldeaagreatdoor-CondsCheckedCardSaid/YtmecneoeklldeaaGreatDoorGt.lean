import Derived.Test.YtmecneoeklldeaaGreatDoorGk49
import Derived.Test.YtmecneoeklldeaaGreatDoorProg
set_option linter.unusedVariables false
set_option maxRecDepth 100000
namespace Go.Proofs.YtmecneoeklldeaaGreatDoor
open Go.Gk
def tbl:List (Nat×TI):=[
(2,⟨(.int .i64),1,8,(.int .i64 0)⟩),
(3,⟨(.int .i64),1,8,(.int .i64 0)⟩),
(4,⟨TypeDesc.bool,1,1,(.bool false)⟩),
(5,⟨(.int .u8),1,1,(.int .u8 0)⟩),
(6,⟨(.int .u8),1,1,(.int .u8 0)⟩),
(7,⟨(TypeDesc.struct #[⟨ "x",2,0,false,"","runtime",0⟩,⟨ "y",3,1,false,"","runtime",8⟩,⟨ "signed",4,2,false,"","runtime",16⟩,⟨ "code",6,3,false,"","runtime",17⟩]),4,24,(Value.agg #[.int .i64 0,.int .i64 0,.bool false,.int .u8 0])⟩),
(8,⟨(TypeDesc.struct #[⟨ "x",2,0,false,"","runtime",0⟩,⟨ "y",3,1,false,"","runtime",8⟩,⟨ "signed",4,2,false,"","runtime",16⟩,⟨ "code",6,3,false,"","runtime",17⟩]),4,24,(Value.agg #[.int .i64 0,.int .i64 0,.bool false,.int .u8 0])⟩),
(9,⟨TypeDesc.string,1,16,(.string ⟨#[]⟩)⟩),
(10,⟨TypeDesc.string,1,16,(.string ⟨#[]⟩)⟩),
(11,⟨TypeDesc.string,1,16,(.string ⟨#[]⟩)⟩),
(12,⟨(.int .u64),1,8,(.int .u64 0)⟩),
(13,⟨(TypeDesc.struct #[⟨ "msg",9,0,false,"","runtime",0⟩,⟨ "addr",12,1,false,"","runtime",16⟩]),2,24,(Value.agg #[.string ⟨#[]⟩,.int .u64 0])⟩),
(14,⟨(TypeDesc.struct #[⟨ "msg",9,0,false,"","runtime",0⟩,⟨ "addr",12,1,false,"","runtime",16⟩]),2,24,(Value.agg #[.string ⟨#[]⟩,.int .u64 0])⟩),
(15,⟨(TypeDesc.pointer 286),1,8,(Value.pointer none)⟩),
(16,⟨(TypeDesc.pointer 289),1,8,(Value.pointer none)⟩),
(17,⟨(TypeDesc.pointer 296),1,8,(Value.pointer none)⟩),
(18,⟨(TypeDesc.struct #[⟨ "typ",17,0,false,"","internal/runtime/maps",0⟩]),1,8,(Value.agg #[Value.pointer none])⟩),
(19,⟨(TypeDesc.struct #[⟨ "typ",17,0,false,"","internal/runtime/maps",0⟩]),1,8,(Value.agg #[Value.pointer none])⟩),
(21,⟨(.int .i32),1,4,(.int .i32 0)⟩),
(22,⟨(TypeDesc.slice 3),1,24,(Value.slice none 0 0)⟩),
(23,⟨(TypeDesc.pointer 25),1,8,(Value.pointer none)⟩),
(24,⟨(TypeDesc.struct #[⟨ "L",22,0,false,"","",0⟩,⟨ "at",3,1,false,"","holloway/lanemake",24⟩]),2,32,(Value.agg #[Value.slice none 0 0,.int .i64 0])⟩),
(25,⟨(TypeDesc.struct #[⟨ "L",22,0,false,"","",0⟩,⟨ "at",3,1,false,"","holloway/lanemake",24⟩]),2,32,(Value.agg #[Value.slice none 0 0,.int .i64 0])⟩),
(26,⟨(TypeDesc.slice 42),1,24,(Value.slice none 0 0)⟩),
(29,⟨(.int .i64),1,8,(.int .i64 0)⟩),
(38,⟨(TypeDesc.array 4 3),4,32,(Value.agg #[.int .i64 0,.int .i64 0,.int .i64 0,.int .i64 0])⟩),
(39,⟨(TypeDesc.struct #[⟨ "Kind",3,0,false,"","",0⟩,⟨ "Number",3,1,false,"","",8⟩,⟨ "Words",9,2,false,"","",16⟩,⟨ "Version",38,3,false,"","",32⟩]),7,64,(Value.agg #[.int .i64 0,.int .i64 0,.string ⟨#[]⟩,.int .i64 0,.int .i64 0,.int .i64 0,.int .i64 0])⟩),
(40,⟨(TypeDesc.struct #[⟨ "Kind",3,0,false,"","",0⟩,⟨ "Number",3,1,false,"","",8⟩,⟨ "Words",9,2,false,"","",16⟩,⟨ "Version",38,3,false,"","",32⟩]),7,64,(Value.agg #[.int .i64 0,.int .i64 0,.string ⟨#[]⟩,.int .i64 0,.int .i64 0,.int .i64 0,.int .i64 0])⟩),
(41,⟨(TypeDesc.struct #[⟨ "At",3,0,false,"","",0⟩,⟨ "Node",9,1,false,"","",8⟩,⟨ "Name",9,2,false,"","",24⟩,⟨ "Value",40,3,false,"","",40⟩]),10,104,(Value.agg #[.int .i64 0,.string ⟨#[]⟩,.string ⟨#[]⟩,.int .i64 0,.int .i64 0,.string ⟨#[]⟩,.int .i64 0,.int .i64 0,.int .i64 0,.int .i64 0])⟩),
(42,⟨(TypeDesc.struct #[⟨ "At",3,0,false,"","",0⟩,⟨ "Node",9,1,false,"","",8⟩,⟨ "Name",9,2,false,"","",24⟩,⟨ "Value",40,3,false,"","",40⟩]),10,104,(Value.agg #[.int .i64 0,.string ⟨#[]⟩,.string ⟨#[]⟩,.int .i64 0,.int .i64 0,.string ⟨#[]⟩,.int .i64 0,.int .i64 0,.int .i64 0,.int .i64 0])⟩),
(45,⟨(TypeDesc.slice 47),1,24,(Value.slice none 0 0)⟩),
(46,⟨(TypeDesc.struct #[⟨ "Kind",3,0,false,"","",0⟩,⟨ "Name",9,1,false,"","",8⟩,⟨ "Op",9,2,false,"","",24⟩,⟨ "Value",40,3,false,"","",40⟩,⟨ "Kids",45,10,false,"","",104⟩]),11,128,(Value.agg #[.int .i64 0,.string ⟨#[]⟩,.string ⟨#[]⟩,.int .i64 0,.int .i64 0,.string ⟨#[]⟩,.int .i64 0,.int .i64 0,.int .i64 0,.int .i64 0,Value.slice none 0 0])⟩),
(47,⟨(TypeDesc.struct #[⟨ "Kind",3,0,false,"","",0⟩,⟨ "Name",9,1,false,"","",8⟩,⟨ "Op",9,2,false,"","",24⟩,⟨ "Value",40,3,false,"","",40⟩,⟨ "Kids",45,10,false,"","",104⟩]),11,128,(Value.agg #[.int .i64 0,.string ⟨#[]⟩,.string ⟨#[]⟩,.int .i64 0,.int .i64 0,.string ⟨#[]⟩,.int .i64 0,.int .i64 0,.int .i64 0,.int .i64 0,Value.slice none 0 0])⟩),
(50,⟨(TypeDesc.slice 9),1,24,(Value.slice none 0 0)⟩),
(61,⟨(TypeDesc.pointer 64),1,8,(Value.pointer none)⟩),
(62,⟨(TypeDesc.slice 5),1,24,(Value.slice none 0 0)⟩),
(63,⟨(TypeDesc.struct #[⟨ "addr",61,0,false,"","strings",0⟩,⟨ "buf",62,1,false,"","strings",8⟩]),2,32,(Value.agg #[Value.pointer none,Value.slice none 0 0])⟩),
(64,⟨(TypeDesc.struct #[⟨ "addr",61,0,false,"","strings",0⟩,⟨ "buf",62,1,false,"","strings",8⟩]),2,32,(Value.agg #[Value.pointer none,Value.slice none 0 0])⟩),
(66,⟨(TypeDesc.interface #[("Error",34)]),1,16,(Value.nilIface)⟩),
(92,⟨(TypeDesc.map 9 4),1,8,(Value.map none)⟩),
(105,⟨(TypeDesc.pointer 157),1,8,(Value.pointer none)⟩),
(110,⟨(TypeDesc.pointer 5),1,8,(Value.pointer none)⟩),
(121,⟨(TypeDesc.pointer 125),1,8,(Value.pointer none)⟩),
(122,⟨(TypeDesc.struct #[⟨ "kind",9,0,false,"","holloway/laneref1",0⟩,⟨ "at",3,1,false,"","holloway/laneref1",16⟩,⟨ "name",9,2,false,"","holloway/laneref1",24⟩,⟨ "value",40,3,false,"","holloway/laneref1",40⟩]),10,104,(Value.agg #[.string ⟨#[]⟩,.int .i64 0,.string ⟨#[]⟩,.int .i64 0,.int .i64 0,.string ⟨#[]⟩,.int .i64 0,.int .i64 0,.int .i64 0,.int .i64 0])⟩),
(123,⟨(TypeDesc.struct #[⟨ "kind",9,0,false,"","holloway/laneref1",0⟩,⟨ "at",3,1,false,"","holloway/laneref1",16⟩,⟨ "name",9,2,false,"","holloway/laneref1",24⟩,⟨ "value",40,3,false,"","holloway/laneref1",40⟩]),10,104,(Value.agg #[.string ⟨#[]⟩,.int .i64 0,.string ⟨#[]⟩,.int .i64 0,.int .i64 0,.string ⟨#[]⟩,.int .i64 0,.int .i64 0,.int .i64 0,.int .i64 0])⟩),
(124,⟨(TypeDesc.struct #[⟨ "s",9,0,false,"","holloway/laneref1",0⟩,⟨ "at",3,1,false,"","holloway/laneref1",16⟩,⟨ "next",123,2,false,"","holloway/laneref1",24⟩,⟨ "fault",3,12,false,"","holloway/laneref1",128⟩]),13,136,(Value.agg #[.string ⟨#[]⟩,.int .i64 0,.string ⟨#[]⟩,.int .i64 0,.string ⟨#[]⟩,.int .i64 0,.int .i64 0,.string ⟨#[]⟩,.int .i64 0,.int .i64 0,.int .i64 0,.int .i64 0,.int .i64 0])⟩),
(125,⟨(TypeDesc.struct #[⟨ "s",9,0,false,"","holloway/laneref1",0⟩,⟨ "at",3,1,false,"","holloway/laneref1",16⟩,⟨ "next",123,2,false,"","holloway/laneref1",24⟩,⟨ "fault",3,12,false,"","holloway/laneref1",128⟩]),13,136,(Value.agg #[.string ⟨#[]⟩,.int .i64 0,.string ⟨#[]⟩,.int .i64 0,.string ⟨#[]⟩,.int .i64 0,.int .i64 0,.string ⟨#[]⟩,.int .i64 0,.int .i64 0,.int .i64 0,.int .i64 0,.int .i64 0])⟩),
(126,⟨(TypeDesc.pointer 130),1,8,(Value.pointer none)⟩),
(127,⟨(TypeDesc.struct #[⟨ "kind",9,0,false,"","holloway/posture",0⟩,⟨ "at",3,1,false,"","holloway/posture",16⟩,⟨ "end",3,2,false,"","holloway/posture",24⟩,⟨ "name",9,3,false,"","holloway/posture",32⟩,⟨ "value",40,4,false,"","holloway/posture",48⟩]),11,112,(Value.agg #[.string ⟨#[]⟩,.int .i64 0,.int .i64 0,.string ⟨#[]⟩,.int .i64 0,.int .i64 0,.string ⟨#[]⟩,.int .i64 0,.int .i64 0,.int .i64 0,.int .i64 0])⟩),
(128,⟨(TypeDesc.struct #[⟨ "kind",9,0,false,"","holloway/posture",0⟩,⟨ "at",3,1,false,"","holloway/posture",16⟩,⟨ "end",3,2,false,"","holloway/posture",24⟩,⟨ "name",9,3,false,"","holloway/posture",32⟩,⟨ "value",40,4,false,"","holloway/posture",48⟩]),11,112,(Value.agg #[.string ⟨#[]⟩,.int .i64 0,.int .i64 0,.string ⟨#[]⟩,.int .i64 0,.int .i64 0,.string ⟨#[]⟩,.int .i64 0,.int .i64 0,.int .i64 0,.int .i64 0])⟩),
(130,⟨(TypeDesc.struct #[⟨ "s",9,0,false,"","holloway/posture",0⟩,⟨ "tok",128,1,false,"","holloway/posture",16⟩,⟨ "bad",4,12,false,"","holloway/posture",128⟩,⟨ "at",3,13,false,"","holloway/posture",136⟩]),14,144,(Value.agg #[.string ⟨#[]⟩,.string ⟨#[]⟩,.int .i64 0,.int .i64 0,.string ⟨#[]⟩,.int .i64 0,.int .i64 0,.string ⟨#[]⟩,.int .i64 0,.int .i64 0,.int .i64 0,.int .i64 0,.bool false,.int .i64 0])⟩),
(135,⟨(.int .u64),1,8,(.int .u64 0)⟩),
(139,⟨TypeDesc.unsafePointer,1,8,(Value.pointer none)⟩),
(142,⟨(TypeDesc.struct #[]),0,0,(Value.agg #[])⟩),
(143,⟨(TypeDesc.struct #[]),0,0,(Value.agg #[])⟩),
(144,⟨(TypeDesc.struct #[]),0,0,(Value.agg #[])⟩),
(145,⟨(.int .u32),1,4,(.int .u32 0)⟩),
(147,⟨(TypeDesc.struct #[⟨ "_",144,0,false,"","sync/atomic",0⟩,⟨ "v",145,0,false,"","sync/atomic",0⟩]),1,4,(Value.agg #[.int .u32 0])⟩),
(148,⟨(TypeDesc.struct #[⟨ "state",21,0,false,"","internal/sync",0⟩,⟨ "sema",145,1,false,"","internal/sync",4⟩]),2,8,(Value.agg #[.int .i32 0,.int .u32 0])⟩),
(149,⟨(TypeDesc.struct #[⟨ "state",21,0,false,"","internal/sync",0⟩,⟨ "sema",145,1,false,"","internal/sync",4⟩]),2,8,(Value.agg #[.int .i32 0,.int .u32 0])⟩),
(151,⟨(TypeDesc.struct #[⟨ "_",143,0,false,"","sync",0⟩,⟨ "mu",149,0,false,"","sync",0⟩]),2,8,(Value.agg #[.int .i32 0,.int .u32 0])⟩),
(152,⟨(TypeDesc.struct #[⟨ "_",143,0,false,"","sync",0⟩,⟨ "done",147,0,false,"","sync",0⟩,⟨ "m",151,1,false,"","sync",4⟩]),3,12,(Value.agg #[.int .u32 0,.int .i32 0,.int .u32 0])⟩),
(153,⟨(TypeDesc.struct #[⟨ "_",143,0,false,"","sync",0⟩,⟨ "done",147,0,false,"","sync",0⟩,⟨ "m",151,1,false,"","sync",4⟩]),3,12,(Value.agg #[.int .u32 0,.int .i32 0,.int .u32 0])⟩),
(157,⟨(TypeDesc.struct #[⟨ "once",153,0,false,"","strings",0⟩,⟨ "r",155,3,false,"","strings",16⟩,⟨ "oldnew",50,4,false,"","strings",32⟩]),5,56,(Value.agg #[.int .u32 0,.int .i32 0,.int .u32 0,Value.nilIface,Value.slice none 0 0])⟩),
(173,⟨(.int .i64),1,8,(.int .i64 0)⟩),
(181,⟨(.int .u64),1,8,(.int .u64 0)⟩),
(186,⟨(TypeDesc.array 24 5),24,24,(Value.agg #[.int .u8 0,.int .u8 0,.int .u8 0,.int .u8 0,.int .u8 0,.int .u8 0,.int .u8 0,.int .u8 0,.int .u8 0,.int .u8 0,.int .u8 0,.int .u8 0,.int .u8 0,.int .u8 0,.int .u8 0,.int .u8 0,.int .u8 0,.int .u8 0,.int .u8 0,.int .u8 0,.int .u8 0,.int .u8 0,.int .u8 0,.int .u8 0])⟩),
(194,⟨(TypeDesc.array 256 4),256,256,(Value.agg (([.bool false,.bool false,.bool false,.bool false,.bool false,.bool false,.bool false,.bool false,.bool false,.bool false,.bool false,.bool false,.bool false,.bool false,.bool false,.bool false,.bool false,.bool false,.bool false,.bool false,.bool false,.bool false,.bool false,.bool false,.bool false,.bool false,.bool false,.bool false,.bool false,.bool false,.bool false,.bool false,.bool false,.bool false,.bool false,.bool false,.bool false,.bool false,.bool false,.bool false,.bool false,.bool false,.bool false,.bool false,.bool false,.bool false,.bool false,.bool false,.bool false,.bool false,.bool false,.bool false,.bool false,.bool false,.bool false,.bool false,.bool false,.bool false,.bool false,.bool false,.bool false,.bool false,.bool false,.bool false].append [.bool false,.bool false,.bool false,.bool false,.bool false,.bool false,.bool false,.bool false,.bool false,.bool false,.bool false,.bool false,.bool false,.bool false,.bool false,.bool false,.bool false,.bool false,.bool false,.bool false,.bool false,.bool false,.bool false,.bool false,.bool false,.bool false,.bool false,.bool false,.bool false,.bool false,.bool false,.bool false,.bool false,.bool false,.bool false,.bool false,.bool false,.bool false,.bool false,.bool false,.bool false,.bool false,.bool false,.bool false,.bool false,.bool false,.bool false,.bool false,.bool false,.bool false,.bool false,.bool false,.bool false,.bool false,.bool false,.bool false,.bool false,.bool false,.bool false,.bool false,.bool false,.bool false,.bool false,.bool false]).append ([.bool false,.bool false,.bool false,.bool false,.bool false,.bool false,.bool false,.bool false,.bool false,.bool false,.bool false,.bool false,.bool false,.bool false,.bool false,.bool false,.bool false,.bool false,.bool false,.bool false,.bool false,.bool false,.bool false,.bool false,.bool false,.bool false,.bool false,.bool false,.bool false,.bool false,.bool false,.bool false,.bool false,.bool false,.bool false,.bool false,.bool false,.bool false,.bool false,.bool false,.bool false,.bool false,.bool false,.bool false,.bool false,.bool false,.bool false,.bool false,.bool false,.bool false,.bool false,.bool false,.bool false,.bool false,.bool false,.bool false,.bool false,.bool false,.bool false,.bool false,.bool false,.bool false,.bool false,.bool false].append [.bool false,.bool false,.bool false,.bool false,.bool false,.bool false,.bool false,.bool false,.bool false,.bool false,.bool false,.bool false,.bool false,.bool false,.bool false,.bool false,.bool false,.bool false,.bool false,.bool false,.bool false,.bool false,.bool false,.bool false,.bool false,.bool false,.bool false,.bool false,.bool false,.bool false,.bool false,.bool false,.bool false,.bool false,.bool false,.bool false,.bool false,.bool false,.bool false,.bool false,.bool false,.bool false,.bool false,.bool false,.bool false,.bool false,.bool false,.bool false,.bool false,.bool false,.bool false,.bool false,.bool false,.bool false,.bool false,.bool false,.bool false,.bool false,.bool false,.bool false,.bool false,.bool false,.bool false,.bool false])).toArray)⟩),
(198,⟨(TypeDesc.pointer 194),1,8,(Value.pointer none)⟩),
(232,⟨(TypeDesc.array 256 62),256,6144,(Value.agg (([Value.slice none 0 0,Value.slice none 0 0,Value.slice none 0 0,Value.slice none 0 0,Value.slice none 0 0,Value.slice none 0 0,Value.slice none 0 0,Value.slice none 0 0,Value.slice none 0 0,Value.slice none 0 0,Value.slice none 0 0,Value.slice none 0 0,Value.slice none 0 0,Value.slice none 0 0,Value.slice none 0 0,Value.slice none 0 0,Value.slice none 0 0,Value.slice none 0 0,Value.slice none 0 0,Value.slice none 0 0,Value.slice none 0 0,Value.slice none 0 0,Value.slice none 0 0,Value.slice none 0 0,Value.slice none 0 0,Value.slice none 0 0,Value.slice none 0 0,Value.slice none 0 0,Value.slice none 0 0,Value.slice none 0 0,Value.slice none 0 0,Value.slice none 0 0,Value.slice none 0 0,Value.slice none 0 0,Value.slice none 0 0,Value.slice none 0 0,Value.slice none 0 0,Value.slice none 0 0,Value.slice none 0 0,Value.slice none 0 0,Value.slice none 0 0,Value.slice none 0 0,Value.slice none 0 0,Value.slice none 0 0,Value.slice none 0 0,Value.slice none 0 0,Value.slice none 0 0,Value.slice none 0 0,Value.slice none 0 0,Value.slice none 0 0,Value.slice none 0 0,Value.slice none 0 0,Value.slice none 0 0,Value.slice none 0 0,Value.slice none 0 0,Value.slice none 0 0,Value.slice none 0 0,Value.slice none 0 0,Value.slice none 0 0,Value.slice none 0 0,Value.slice none 0 0,Value.slice none 0 0,Value.slice none 0 0,Value.slice none 0 0].append [Value.slice none 0 0,Value.slice none 0 0,Value.slice none 0 0,Value.slice none 0 0,Value.slice none 0 0,Value.slice none 0 0,Value.slice none 0 0,Value.slice none 0 0,Value.slice none 0 0,Value.slice none 0 0,Value.slice none 0 0,Value.slice none 0 0,Value.slice none 0 0,Value.slice none 0 0,Value.slice none 0 0,Value.slice none 0 0,Value.slice none 0 0,Value.slice none 0 0,Value.slice none 0 0,Value.slice none 0 0,Value.slice none 0 0,Value.slice none 0 0,Value.slice none 0 0,Value.slice none 0 0,Value.slice none 0 0,Value.slice none 0 0,Value.slice none 0 0,Value.slice none 0 0,Value.slice none 0 0,Value.slice none 0 0,Value.slice none 0 0,Value.slice none 0 0,Value.slice none 0 0,Value.slice none 0 0,Value.slice none 0 0,Value.slice none 0 0,Value.slice none 0 0,Value.slice none 0 0,Value.slice none 0 0,Value.slice none 0 0,Value.slice none 0 0,Value.slice none 0 0,Value.slice none 0 0,Value.slice none 0 0,Value.slice none 0 0,Value.slice none 0 0,Value.slice none 0 0,Value.slice none 0 0,Value.slice none 0 0,Value.slice none 0 0,Value.slice none 0 0,Value.slice none 0 0,Value.slice none 0 0,Value.slice none 0 0,Value.slice none 0 0,Value.slice none 0 0,Value.slice none 0 0,Value.slice none 0 0,Value.slice none 0 0,Value.slice none 0 0,Value.slice none 0 0,Value.slice none 0 0,Value.slice none 0 0,Value.slice none 0 0]).append ([Value.slice none 0 0,Value.slice none 0 0,Value.slice none 0 0,Value.slice none 0 0,Value.slice none 0 0,Value.slice none 0 0,Value.slice none 0 0,Value.slice none 0 0,Value.slice none 0 0,Value.slice none 0 0,Value.slice none 0 0,Value.slice none 0 0,Value.slice none 0 0,Value.slice none 0 0,Value.slice none 0 0,Value.slice none 0 0,Value.slice none 0 0,Value.slice none 0 0,Value.slice none 0 0,Value.slice none 0 0,Value.slice none 0 0,Value.slice none 0 0,Value.slice none 0 0,Value.slice none 0 0,Value.slice none 0 0,Value.slice none 0 0,Value.slice none 0 0,Value.slice none 0 0,Value.slice none 0 0,Value.slice none 0 0,Value.slice none 0 0,Value.slice none 0 0,Value.slice none 0 0,Value.slice none 0 0,Value.slice none 0 0,Value.slice none 0 0,Value.slice none 0 0,Value.slice none 0 0,Value.slice none 0 0,Value.slice none 0 0,Value.slice none 0 0,Value.slice none 0 0,Value.slice none 0 0,Value.slice none 0 0,Value.slice none 0 0,Value.slice none 0 0,Value.slice none 0 0,Value.slice none 0 0,Value.slice none 0 0,Value.slice none 0 0,Value.slice none 0 0,Value.slice none 0 0,Value.slice none 0 0,Value.slice none 0 0,Value.slice none 0 0,Value.slice none 0 0,Value.slice none 0 0,Value.slice none 0 0,Value.slice none 0 0,Value.slice none 0 0,Value.slice none 0 0,Value.slice none 0 0,Value.slice none 0 0,Value.slice none 0 0].append [Value.slice none 0 0,Value.slice none 0 0,Value.slice none 0 0,Value.slice none 0 0,Value.slice none 0 0,Value.slice none 0 0,Value.slice none 0 0,Value.slice none 0 0,Value.slice none 0 0,Value.slice none 0 0,Value.slice none 0 0,Value.slice none 0 0,Value.slice none 0 0,Value.slice none 0 0,Value.slice none 0 0,Value.slice none 0 0,Value.slice none 0 0,Value.slice none 0 0,Value.slice none 0 0,Value.slice none 0 0,Value.slice none 0 0,Value.slice none 0 0,Value.slice none 0 0,Value.slice none 0 0,Value.slice none 0 0,Value.slice none 0 0,Value.slice none 0 0,Value.slice none 0 0,Value.slice none 0 0,Value.slice none 0 0,Value.slice none 0 0,Value.slice none 0 0,Value.slice none 0 0,Value.slice none 0 0,Value.slice none 0 0,Value.slice none 0 0,Value.slice none 0 0,Value.slice none 0 0,Value.slice none 0 0,Value.slice none 0 0,Value.slice none 0 0,Value.slice none 0 0,Value.slice none 0 0,Value.slice none 0 0,Value.slice none 0 0,Value.slice none 0 0,Value.slice none 0 0,Value.slice none 0 0,Value.slice none 0 0,Value.slice none 0 0,Value.slice none 0 0,Value.slice none 0 0,Value.slice none 0 0,Value.slice none 0 0,Value.slice none 0 0,Value.slice none 0 0,Value.slice none 0 0,Value.slice none 0 0,Value.slice none 0 0,Value.slice none 0 0,Value.slice none 0 0,Value.slice none 0 0,Value.slice none 0 0,Value.slice none 0 0])).toArray)⟩),
(234,⟨(TypeDesc.struct #[⟨ "replacements",232,0,false,"","strings",0⟩,⟨ "toReplace",50,256,false,"","strings",6144⟩]),257,6168,(Value.agg (([Value.slice none 0 0,Value.slice none 0 0,Value.slice none 0 0,Value.slice none 0 0,Value.slice none 0 0,Value.slice none 0 0,Value.slice none 0 0,Value.slice none 0 0,Value.slice none 0 0,Value.slice none 0 0,Value.slice none 0 0,Value.slice none 0 0,Value.slice none 0 0,Value.slice none 0 0,Value.slice none 0 0,Value.slice none 0 0,Value.slice none 0 0,Value.slice none 0 0,Value.slice none 0 0,Value.slice none 0 0,Value.slice none 0 0,Value.slice none 0 0,Value.slice none 0 0,Value.slice none 0 0,Value.slice none 0 0,Value.slice none 0 0,Value.slice none 0 0,Value.slice none 0 0,Value.slice none 0 0,Value.slice none 0 0,Value.slice none 0 0,Value.slice none 0 0,Value.slice none 0 0,Value.slice none 0 0,Value.slice none 0 0,Value.slice none 0 0,Value.slice none 0 0,Value.slice none 0 0,Value.slice none 0 0,Value.slice none 0 0,Value.slice none 0 0,Value.slice none 0 0,Value.slice none 0 0,Value.slice none 0 0,Value.slice none 0 0,Value.slice none 0 0,Value.slice none 0 0,Value.slice none 0 0,Value.slice none 0 0,Value.slice none 0 0,Value.slice none 0 0,Value.slice none 0 0,Value.slice none 0 0,Value.slice none 0 0,Value.slice none 0 0,Value.slice none 0 0,Value.slice none 0 0,Value.slice none 0 0,Value.slice none 0 0,Value.slice none 0 0,Value.slice none 0 0,Value.slice none 0 0,Value.slice none 0 0,Value.slice none 0 0].append [Value.slice none 0 0,Value.slice none 0 0,Value.slice none 0 0,Value.slice none 0 0,Value.slice none 0 0,Value.slice none 0 0,Value.slice none 0 0,Value.slice none 0 0,Value.slice none 0 0,Value.slice none 0 0,Value.slice none 0 0,Value.slice none 0 0,Value.slice none 0 0,Value.slice none 0 0,Value.slice none 0 0,Value.slice none 0 0,Value.slice none 0 0,Value.slice none 0 0,Value.slice none 0 0,Value.slice none 0 0,Value.slice none 0 0,Value.slice none 0 0,Value.slice none 0 0,Value.slice none 0 0,Value.slice none 0 0,Value.slice none 0 0,Value.slice none 0 0,Value.slice none 0 0,Value.slice none 0 0,Value.slice none 0 0,Value.slice none 0 0,Value.slice none 0 0,Value.slice none 0 0,Value.slice none 0 0,Value.slice none 0 0,Value.slice none 0 0,Value.slice none 0 0,Value.slice none 0 0,Value.slice none 0 0,Value.slice none 0 0,Value.slice none 0 0,Value.slice none 0 0,Value.slice none 0 0,Value.slice none 0 0,Value.slice none 0 0,Value.slice none 0 0,Value.slice none 0 0,Value.slice none 0 0,Value.slice none 0 0,Value.slice none 0 0,Value.slice none 0 0,Value.slice none 0 0,Value.slice none 0 0,Value.slice none 0 0,Value.slice none 0 0,Value.slice none 0 0,Value.slice none 0 0,Value.slice none 0 0,Value.slice none 0 0,Value.slice none 0 0,Value.slice none 0 0,Value.slice none 0 0,Value.slice none 0 0,Value.slice none 0 0]).append ([Value.slice none 0 0,Value.slice none 0 0,Value.slice none 0 0,Value.slice none 0 0,Value.slice none 0 0,Value.slice none 0 0,Value.slice none 0 0,Value.slice none 0 0,Value.slice none 0 0,Value.slice none 0 0,Value.slice none 0 0,Value.slice none 0 0,Value.slice none 0 0,Value.slice none 0 0,Value.slice none 0 0,Value.slice none 0 0,Value.slice none 0 0,Value.slice none 0 0,Value.slice none 0 0,Value.slice none 0 0,Value.slice none 0 0,Value.slice none 0 0,Value.slice none 0 0,Value.slice none 0 0,Value.slice none 0 0,Value.slice none 0 0,Value.slice none 0 0,Value.slice none 0 0,Value.slice none 0 0,Value.slice none 0 0,Value.slice none 0 0,Value.slice none 0 0,Value.slice none 0 0,Value.slice none 0 0,Value.slice none 0 0,Value.slice none 0 0,Value.slice none 0 0,Value.slice none 0 0,Value.slice none 0 0,Value.slice none 0 0,Value.slice none 0 0,Value.slice none 0 0,Value.slice none 0 0,Value.slice none 0 0,Value.slice none 0 0,Value.slice none 0 0,Value.slice none 0 0,Value.slice none 0 0,Value.slice none 0 0,Value.slice none 0 0,Value.slice none 0 0,Value.slice none 0 0,Value.slice none 0 0,Value.slice none 0 0,Value.slice none 0 0,Value.slice none 0 0,Value.slice none 0 0,Value.slice none 0 0,Value.slice none 0 0,Value.slice none 0 0,Value.slice none 0 0,Value.slice none 0 0,Value.slice none 0 0,Value.slice none 0 0].append ([Value.slice none 0 0,Value.slice none 0 0,Value.slice none 0 0,Value.slice none 0 0,Value.slice none 0 0,Value.slice none 0 0,Value.slice none 0 0,Value.slice none 0 0,Value.slice none 0 0,Value.slice none 0 0,Value.slice none 0 0,Value.slice none 0 0,Value.slice none 0 0,Value.slice none 0 0,Value.slice none 0 0,Value.slice none 0 0,Value.slice none 0 0,Value.slice none 0 0,Value.slice none 0 0,Value.slice none 0 0,Value.slice none 0 0,Value.slice none 0 0,Value.slice none 0 0,Value.slice none 0 0,Value.slice none 0 0,Value.slice none 0 0,Value.slice none 0 0,Value.slice none 0 0,Value.slice none 0 0,Value.slice none 0 0,Value.slice none 0 0,Value.slice none 0 0].append [Value.slice none 0 0,Value.slice none 0 0,Value.slice none 0 0,Value.slice none 0 0,Value.slice none 0 0,Value.slice none 0 0,Value.slice none 0 0,Value.slice none 0 0,Value.slice none 0 0,Value.slice none 0 0,Value.slice none 0 0,Value.slice none 0 0,Value.slice none 0 0,Value.slice none 0 0,Value.slice none 0 0,Value.slice none 0 0,Value.slice none 0 0,Value.slice none 0 0,Value.slice none 0 0,Value.slice none 0 0,Value.slice none 0 0,Value.slice none 0 0,Value.slice none 0 0,Value.slice none 0 0,Value.slice none 0 0,Value.slice none 0 0,Value.slice none 0 0,Value.slice none 0 0,Value.slice none 0 0,Value.slice none 0 0,Value.slice none 0 0,Value.slice none 0 0,Value.slice none 0 0]))).toArray)⟩),
(237,⟨(TypeDesc.pointer 128),1,8,(Value.pointer none)⟩),
(255,⟨(TypeDesc.pointer 258),1,8,(Value.pointer none)⟩),
(256,⟨(TypeDesc.slice 255),1,24,(Value.slice none 0 0)⟩),
(257,⟨(TypeDesc.struct #[⟨ "value",9,0,false,"","strings",0⟩,⟨ "priority",3,1,false,"","strings",16⟩,⟨ "prefix",9,2,false,"","strings",24⟩,⟨ "next",255,3,false,"","strings",40⟩,⟨ "table",256,4,false,"","strings",48⟩]),5,72,(Value.agg #[.string ⟨#[]⟩,.int .i64 0,.string ⟨#[]⟩,Value.pointer none,Value.slice none 0 0])⟩),
(258,⟨(TypeDesc.struct #[⟨ "value",9,0,false,"","strings",0⟩,⟨ "priority",3,1,false,"","strings",16⟩,⟨ "prefix",9,2,false,"","strings",24⟩,⟨ "next",255,3,false,"","strings",40⟩,⟨ "table",256,4,false,"","strings",48⟩]),5,72,(Value.agg #[.string ⟨#[]⟩,.int .i64 0,.string ⟨#[]⟩,Value.pointer none,Value.slice none 0 0])⟩),
(275,⟨(TypeDesc.pointer 21),1,8,(Value.pointer none)⟩),
(279,⟨(TypeDesc.array 256 3),256,2048,(Value.agg (([.int .i64 0,.int .i64 0,.int .i64 0,.int .i64 0,.int .i64 0,.int .i64 0,.int .i64 0,.int .i64 0,.int .i64 0,.int .i64 0,.int .i64 0,.int .i64 0,.int .i64 0,.int .i64 0,.int .i64 0,.int .i64 0,.int .i64 0,.int .i64 0,.int .i64 0,.int .i64 0,.int .i64 0,.int .i64 0,.int .i64 0,.int .i64 0,.int .i64 0,.int .i64 0,.int .i64 0,.int .i64 0,.int .i64 0,.int .i64 0,.int .i64 0,.int .i64 0,.int .i64 0,.int .i64 0,.int .i64 0,.int .i64 0,.int .i64 0,.int .i64 0,.int .i64 0,.int .i64 0,.int .i64 0,.int .i64 0,.int .i64 0,.int .i64 0,.int .i64 0,.int .i64 0,.int .i64 0,.int .i64 0,.int .i64 0,.int .i64 0,.int .i64 0,.int .i64 0,.int .i64 0,.int .i64 0,.int .i64 0,.int .i64 0,.int .i64 0,.int .i64 0,.int .i64 0,.int .i64 0,.int .i64 0,.int .i64 0,.int .i64 0,.int .i64 0].append [.int .i64 0,.int .i64 0,.int .i64 0,.int .i64 0,.int .i64 0,.int .i64 0,.int .i64 0,.int .i64 0,.int .i64 0,.int .i64 0,.int .i64 0,.int .i64 0,.int .i64 0,.int .i64 0,.int .i64 0,.int .i64 0,.int .i64 0,.int .i64 0,.int .i64 0,.int .i64 0,.int .i64 0,.int .i64 0,.int .i64 0,.int .i64 0,.int .i64 0,.int .i64 0,.int .i64 0,.int .i64 0,.int .i64 0,.int .i64 0,.int .i64 0,.int .i64 0,.int .i64 0,.int .i64 0,.int .i64 0,.int .i64 0,.int .i64 0,.int .i64 0,.int .i64 0,.int .i64 0,.int .i64 0,.int .i64 0,.int .i64 0,.int .i64 0,.int .i64 0,.int .i64 0,.int .i64 0,.int .i64 0,.int .i64 0,.int .i64 0,.int .i64 0,.int .i64 0,.int .i64 0,.int .i64 0,.int .i64 0,.int .i64 0,.int .i64 0,.int .i64 0,.int .i64 0,.int .i64 0,.int .i64 0,.int .i64 0,.int .i64 0,.int .i64 0]).append ([.int .i64 0,.int .i64 0,.int .i64 0,.int .i64 0,.int .i64 0,.int .i64 0,.int .i64 0,.int .i64 0,.int .i64 0,.int .i64 0,.int .i64 0,.int .i64 0,.int .i64 0,.int .i64 0,.int .i64 0,.int .i64 0,.int .i64 0,.int .i64 0,.int .i64 0,.int .i64 0,.int .i64 0,.int .i64 0,.int .i64 0,.int .i64 0,.int .i64 0,.int .i64 0,.int .i64 0,.int .i64 0,.int .i64 0,.int .i64 0,.int .i64 0,.int .i64 0,.int .i64 0,.int .i64 0,.int .i64 0,.int .i64 0,.int .i64 0,.int .i64 0,.int .i64 0,.int .i64 0,.int .i64 0,.int .i64 0,.int .i64 0,.int .i64 0,.int .i64 0,.int .i64 0,.int .i64 0,.int .i64 0,.int .i64 0,.int .i64 0,.int .i64 0,.int .i64 0,.int .i64 0,.int .i64 0,.int .i64 0,.int .i64 0,.int .i64 0,.int .i64 0,.int .i64 0,.int .i64 0,.int .i64 0,.int .i64 0,.int .i64 0,.int .i64 0].append [.int .i64 0,.int .i64 0,.int .i64 0,.int .i64 0,.int .i64 0,.int .i64 0,.int .i64 0,.int .i64 0,.int .i64 0,.int .i64 0,.int .i64 0,.int .i64 0,.int .i64 0,.int .i64 0,.int .i64 0,.int .i64 0,.int .i64 0,.int .i64 0,.int .i64 0,.int .i64 0,.int .i64 0,.int .i64 0,.int .i64 0,.int .i64 0,.int .i64 0,.int .i64 0,.int .i64 0,.int .i64 0,.int .i64 0,.int .i64 0,.int .i64 0,.int .i64 0,.int .i64 0,.int .i64 0,.int .i64 0,.int .i64 0,.int .i64 0,.int .i64 0,.int .i64 0,.int .i64 0,.int .i64 0,.int .i64 0,.int .i64 0,.int .i64 0,.int .i64 0,.int .i64 0,.int .i64 0,.int .i64 0,.int .i64 0,.int .i64 0,.int .i64 0,.int .i64 0,.int .i64 0,.int .i64 0,.int .i64 0,.int .i64 0,.int .i64 0,.int .i64 0,.int .i64 0,.int .i64 0,.int .i64 0,.int .i64 0,.int .i64 0,.int .i64 0])).toArray)⟩),
(286,⟨(TypeDesc.struct #[⟨ "_interface",17,0,false,"","runtime",0⟩,⟨ "concrete",17,1,false,"","runtime",8⟩,⟨ "asserted",17,2,false,"","runtime",16⟩,⟨ "missingMethod",9,3,false,"","runtime",24⟩]),4,40,(Value.agg #[Value.pointer none,Value.pointer none,Value.pointer none,.string ⟨#[]⟩])⟩),
(287,⟨(TypeDesc.array 0 16),0,0,(Value.agg #[])⟩),
(289,⟨(TypeDesc.struct #[⟨ "_",287,0,false,"","runtime",0⟩]),0,0,(Value.agg #[])⟩),
(290,⟨(.int .u8),1,1,(.int .u8 0)⟩),
(291,⟨(.int .u8),1,1,(.int .u8 0)⟩),
(293,⟨(.int .i32),1,4,(.int .i32 0)⟩),
(294,⟨(.int .i32),1,4,(.int .i32 0)⟩),
(296,⟨(TypeDesc.struct #[⟨ "Size_",12,0,false,"","",0⟩,⟨ "PtrBytes",12,1,false,"","",8⟩,⟨ "Hash",145,2,false,"","",16⟩,⟨ "TFlag",290,3,false,"","",20⟩,⟨ "Align_",5,4,false,"","",21⟩,⟨ "FieldAlign_",5,5,false,"","",22⟩,⟨ "Kind_",291,6,false,"","",23⟩,⟨ "Equal",292,7,false,"","",24⟩,⟨ "GCData",110,8,false,"","",32⟩,⟨ "Str",293,9,false,"","",40⟩,⟨ "PtrToThis",294,10,false,"","",44⟩]),11,48,(Value.agg #[.int .u64 0,.int .u64 0,.int .u32 0,.int .u8 0,.int .u8 0,.int .u8 0,.int .u8 0,Value.nilFunc,Value.pointer none,.int .i32 0,.int .i32 0])⟩),
(298,⟨(TypeDesc.slice 5),1,24,(Value.slice none 0 0)⟩)]
def Γ(t:TypeId):Option TI:=Gk.look tbl t
theorem hΓ:TOK Tryz.prog Γ:=Gk.Kfq _ (
 And.intro ⟨Tryz.underlying2,Tryz.t2,Tryz.type2,rfl,rfl,rfl⟩ (
 And.intro ⟨Tryz.underlying3,Tryz.t3,Tryz.type3,rfl,rfl,rfl⟩ (
 And.intro ⟨Tryz.underlying4,Tryz.t4,Tryz.type4,rfl,rfl,rfl⟩ (
 And.intro ⟨Tryz.underlying5,Tryz.t5,Tryz.type5,rfl,rfl,rfl⟩ (
 And.intro ⟨Tryz.underlying6,Tryz.t6,Tryz.type6,rfl,rfl,rfl⟩ (
 And.intro ⟨Tryz.underlying7,Tryz.t7,Tryz.type7,rfl,rfl,rfl⟩ (
 And.intro ⟨Tryz.underlying8,Tryz.t8,Tryz.type8,rfl,rfl,rfl⟩ (
 And.intro ⟨Tryz.underlying9,Tryz.t9,Tryz.type9,rfl,rfl,rfl⟩ (
 And.intro ⟨Tryz.underlying10,Tryz.t10,Tryz.type10,rfl,rfl,rfl⟩ (
 And.intro ⟨Tryz.underlying11,Tryz.t11,Tryz.type11,rfl,rfl,rfl⟩ (
 And.intro ⟨Tryz.underlying12,Tryz.t12,Tryz.type12,rfl,rfl,rfl⟩ (
 And.intro ⟨Tryz.underlying13,Tryz.t13,Tryz.type13,rfl,rfl,rfl⟩ (
 And.intro ⟨Tryz.underlying14,Tryz.t14,Tryz.type14,rfl,rfl,rfl⟩ (
 And.intro ⟨Tryz.underlying15,Tryz.t15,Tryz.type15,rfl,rfl,rfl⟩ (
 And.intro ⟨Tryz.underlying16,Tryz.t16,Tryz.type16,rfl,rfl,rfl⟩ (
 And.intro ⟨Tryz.underlying17,Tryz.t17,Tryz.type17,rfl,rfl,rfl⟩ (
 And.intro ⟨Tryz.underlying18,Tryz.t18,Tryz.type18,rfl,rfl,rfl⟩ (
 And.intro ⟨Tryz.underlying19,Tryz.t19,Tryz.type19,rfl,rfl,rfl⟩ (
 And.intro ⟨Tryz.underlying21,Tryz.t21,Tryz.type21,rfl,rfl,rfl⟩ (
 And.intro ⟨Tryz.underlying22,Tryz.t22,Tryz.type22,rfl,rfl,rfl⟩ (
 And.intro ⟨Tryz.underlying23,Tryz.t23,Tryz.type23,rfl,rfl,rfl⟩ (
 And.intro ⟨Tryz.underlying24,Tryz.t24,Tryz.type24,rfl,rfl,rfl⟩ (
 And.intro ⟨Tryz.underlying25,Tryz.t25,Tryz.type25,rfl,rfl,rfl⟩ (
 And.intro ⟨Tryz.underlying26,Tryz.t26,Tryz.type26,rfl,rfl,rfl⟩ (
 And.intro ⟨Tryz.underlying29,Tryz.t29,Tryz.type29,rfl,rfl,rfl⟩ (
 And.intro ⟨Tryz.underlying38,Tryz.t38,Tryz.type38,rfl,rfl,rfl⟩ (
 And.intro ⟨Tryz.underlying39,Tryz.t39,Tryz.type39,rfl,rfl,rfl⟩ (
 And.intro ⟨Tryz.underlying40,Tryz.t40,Tryz.type40,rfl,rfl,rfl⟩ (
 And.intro ⟨Tryz.underlying41,Tryz.t41,Tryz.type41,rfl,rfl,rfl⟩ (
 And.intro ⟨Tryz.underlying42,Tryz.t42,Tryz.type42,rfl,rfl,rfl⟩ (
 And.intro ⟨Tryz.underlying45,Tryz.t45,Tryz.type45,rfl,rfl,rfl⟩ (
 And.intro ⟨Tryz.underlying46,Tryz.t46,Tryz.type46,rfl,rfl,rfl⟩ (
 And.intro ⟨Tryz.underlying47,Tryz.t47,Tryz.type47,rfl,rfl,rfl⟩ (
 And.intro ⟨Tryz.underlying50,Tryz.t50,Tryz.type50,rfl,rfl,rfl⟩ (
 And.intro ⟨Tryz.underlying61,Tryz.t61,Tryz.type61,rfl,rfl,rfl⟩ (
 And.intro ⟨Tryz.underlying62,Tryz.t62,Tryz.type62,rfl,rfl,rfl⟩ (
 And.intro ⟨Tryz.underlying63,Tryz.t63,Tryz.type63,rfl,rfl,rfl⟩ (
 And.intro ⟨Tryz.underlying64,Tryz.t64,Tryz.type64,rfl,rfl,rfl⟩ (
 And.intro ⟨Tryz.underlying66,Tryz.t66,Tryz.type66,rfl,rfl,rfl⟩ (
 And.intro ⟨Tryz.underlying92,Tryz.t92,Tryz.type92,rfl,rfl,rfl⟩ (
 And.intro ⟨Tryz.underlying105,Tryz.t105,Tryz.type105,rfl,rfl,rfl⟩ (
 And.intro ⟨Tryz.underlying110,Tryz.t110,Tryz.type110,rfl,rfl,rfl⟩ (
 And.intro ⟨Tryz.underlying121,Tryz.t121,Tryz.type121,rfl,rfl,rfl⟩ (
 And.intro ⟨Tryz.underlying122,Tryz.t122,Tryz.type122,rfl,rfl,rfl⟩ (
 And.intro ⟨Tryz.underlying123,Tryz.t123,Tryz.type123,rfl,rfl,rfl⟩ (
 And.intro ⟨Tryz.underlying124,Tryz.t124,Tryz.type124,rfl,rfl,rfl⟩ (
 And.intro ⟨Tryz.underlying125,Tryz.t125,Tryz.type125,rfl,rfl,rfl⟩ (
 And.intro ⟨Tryz.underlying126,Tryz.t126,Tryz.type126,rfl,rfl,rfl⟩ (
 And.intro ⟨Tryz.underlying127,Tryz.t127,Tryz.type127,rfl,rfl,rfl⟩ (
 And.intro ⟨Tryz.underlying128,Tryz.t128,Tryz.type128,rfl,rfl,rfl⟩ (
 And.intro ⟨Tryz.underlying130,Tryz.t130,Tryz.type130,rfl,rfl,rfl⟩ (
 And.intro ⟨Tryz.underlying135,Tryz.t135,Tryz.type135,rfl,rfl,rfl⟩ (
 And.intro ⟨Tryz.underlying139,Tryz.t139,Tryz.type139,rfl,rfl,rfl⟩ (
 And.intro ⟨Tryz.underlying142,Tryz.t142,Tryz.type142,rfl,rfl,rfl⟩ (
 And.intro ⟨Tryz.underlying143,Tryz.t143,Tryz.type143,rfl,rfl,rfl⟩ (
 And.intro ⟨Tryz.underlying144,Tryz.t144,Tryz.type144,rfl,rfl,rfl⟩ (
 And.intro ⟨Tryz.underlying145,Tryz.t145,Tryz.type145,rfl,rfl,rfl⟩ (
 And.intro ⟨Tryz.underlying147,Tryz.t147,Tryz.type147,rfl,rfl,rfl⟩ (
 And.intro ⟨Tryz.underlying148,Tryz.t148,Tryz.type148,rfl,rfl,rfl⟩ (
 And.intro ⟨Tryz.underlying149,Tryz.t149,Tryz.type149,rfl,rfl,rfl⟩ (
 And.intro ⟨Tryz.underlying151,Tryz.t151,Tryz.type151,rfl,rfl,rfl⟩ (
 And.intro ⟨Tryz.underlying152,Tryz.t152,Tryz.type152,rfl,rfl,rfl⟩ (
 And.intro ⟨Tryz.underlying153,Tryz.t153,Tryz.type153,rfl,rfl,rfl⟩ (
 And.intro ⟨Tryz.underlying157,Tryz.t157,Tryz.type157,rfl,rfl,rfl⟩ (
 And.intro ⟨Tryz.underlying173,Tryz.t173,Tryz.type173,rfl,rfl,rfl⟩ (
 And.intro ⟨Tryz.underlying181,Tryz.t181,Tryz.type181,rfl,rfl,rfl⟩ (
 And.intro ⟨Tryz.underlying186,Tryz.t186,Tryz.type186,rfl,rfl,rfl⟩ (
 And.intro ⟨Tryz.underlying194,Tryz.t194,Tryz.type194,rfl,rfl,rfl⟩ (
 And.intro ⟨Tryz.underlying198,Tryz.t198,Tryz.type198,rfl,rfl,rfl⟩ (
 And.intro ⟨Tryz.underlying232,Tryz.t232,Tryz.type232,rfl,rfl,rfl⟩ (
 And.intro ⟨Tryz.underlying234,Tryz.t234,Tryz.type234,rfl,rfl,rfl⟩ (
 And.intro ⟨Tryz.underlying237,Tryz.t237,Tryz.type237,rfl,rfl,rfl⟩ (
 And.intro ⟨Tryz.underlying255,Tryz.t255,Tryz.type255,rfl,rfl,rfl⟩ (
 And.intro ⟨Tryz.underlying256,Tryz.t256,Tryz.type256,rfl,rfl,rfl⟩ (
 And.intro ⟨Tryz.underlying257,Tryz.t257,Tryz.type257,rfl,rfl,rfl⟩ (
 And.intro ⟨Tryz.underlying258,Tryz.t258,Tryz.type258,rfl,rfl,rfl⟩ (
 And.intro ⟨Tryz.underlying275,Tryz.t275,Tryz.type275,rfl,rfl,rfl⟩ (
 And.intro ⟨Tryz.underlying279,Tryz.t279,Tryz.type279,rfl,rfl,rfl⟩ (
 And.intro ⟨Tryz.underlying286,Tryz.t286,Tryz.type286,rfl,rfl,rfl⟩ (
 And.intro ⟨Tryz.underlying287,Tryz.t287,Tryz.type287,rfl,rfl,rfl⟩ (
 And.intro ⟨Tryz.underlying289,Tryz.t289,Tryz.type289,rfl,rfl,rfl⟩ (
 And.intro ⟨Tryz.underlying290,Tryz.t290,Tryz.type290,rfl,rfl,rfl⟩ (
 And.intro ⟨Tryz.underlying291,Tryz.t291,Tryz.type291,rfl,rfl,rfl⟩ (
 And.intro ⟨Tryz.underlying293,Tryz.t293,Tryz.type293,rfl,rfl,rfl⟩ (
 And.intro ⟨Tryz.underlying294,Tryz.t294,Tryz.type294,rfl,rfl,rfl⟩ (
 And.intro ⟨Tryz.underlying296,Tryz.t296,Tryz.type296,rfl,rfl,rfl⟩ (
 And.intro ⟨Tryz.underlying298,Tryz.t298,Tryz.type298,rfl,rfl,rfl⟩ (trivial))))))))))))))))))))))))))))))))))))))))))))))))))))))))))))))))))))))))))))))))))))))))
theorem hmix:Tryz.prog.follows .mixedOrders=true:=by kernel_rfl
end Go.Proofs.YtmecneoeklldeaaGreatDoor
